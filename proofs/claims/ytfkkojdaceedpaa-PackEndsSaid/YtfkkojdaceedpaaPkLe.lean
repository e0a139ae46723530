import Derived.Test.YtfkkojdaceedpaaPkU
import Derived.Test.YtfkkojdaceedpaaPkLo
import Derived.Test.YtfkkojdaceedpaaPkG
import Derived.Test.YtfkkojdaceedpaaMk
/- cambistlaw04: PackEnds. -/
namespace Cam
open Go Go.RowKit Go.Proofs

set_option maxRecDepth 100000 in
set_option maxHeartbeats 1600000 in
theorem PackEnds_walk (w : World) (c : UInt8) (n : Int) :
    Calls Try.prog 4 #[.int .u8 (c.toNat : Int), .int .i64 n] w fun e w' => e = .returned (.bool true) ∧ Below w.heap.size w w' := by
  by_cases h0 : n < 0
  · go_enter Try.func4, Try.ntmps4
    go_wp2_with fail
    go_ret
    exact ⟨rfl, Below.refl _ _⟩
  by_cases h2 : 2 < n
  · go_enter Try.func4, Try.ntmps4
    go_wp2_with fail
    go_ret
    exact ⟨rfl, Below.refl _ _⟩
  obtain rfl | rfl | rfl : n = 0 ∨ n = 1 ∨ n = 2 := by omega
  · clear h0 h2
    go_enter Try.func4, Try.ntmps4
    go_wp2_with (first | (at_make; refine make_bytes_some rfl _ _ 25 rfl elem_byte zero_byte 65535 rfl rfl (by omega) ?_; intro g cap w5 t0 _ hl0 ho5 hg hb5; obtain ⟨hc5, hf5⟩ := ho5.cellIn (j := 0) (by omega)) | fail)
    have ho6 := ho5.putAt (j := 0) c
    have hb6 : Below w.heap.size w (w5.setCell ⟨g, 0, none⟩ (.int .u8 (c.toNat : Int))) := hb5.setCell hg _
    obtain ⟨t, ht⟩ : ∃ t, t = t0.set 0 c := ⟨_, rfl⟩
    have hlen : t.length = 65535 := by rw [ht, List.length_set, hl0]
    rw [← ht] at ho6
    have hz : (w5.setCell ⟨g, 0, none⟩ (.int .u8 (c.toNat : Int))).heap.size = w5.heap.size := by simp
    clear ht ho5 hb5 hc5 hf5
    generalize w5.setCell ⟨g, 0, none⟩ (.int .u8 (c.toNat : Int)) = w6 at *
    rw [← hz]
    clear hz
    have hsz6 := hb6.size
    have hp0 := PW.new (w := w6) rfl
    have hbs := ho6.bs
    have wt := WText_ok _ w6.heap.size _ [] false (.slice (some ⟨g, 0, none⟩) 65535 cap) t hp0 (hbs.alloc _) (fun w' hk => (hbs.alloc _).kept1 hk (fun hn k hi e => by
      have := hbs.inlt hn hi
      rcases e with e | e
      · omega
      · simp [Value.ownBlock] at e)) (by omega) (by simp)
    rw [List.nil_append] at wt
    refine wt.mono ?_
    rintro e w7 ⟨rfl, v7, hp7, hk7, _⟩
    have hb7 : Below w6.heap.size w6 w7 := (Kept.below (((Kept.refl _ w6).alloc _).trans hk7 (fun _ _ h => h)) (by
      rintro k hk (e | e)
      · omega
      · simp [Value.ownBlock] at e) (Nat.le_refl _))
    have hb67 := hb6.trans (hb7.mono hsz6)
    clear wt hp0 hk7
    have wi := WInt_any (w7.alloc (.cells #[.int .i64 5] 3)) w6.heap.size v7 (textB t) false (.slice (some ⟨w7.heap.size, 0, none⟩) 1 1) [5] (hp7.alloc _) (Is.lit1 w7 _ _)
      (fun w' hk => Is.block (l := [5]) (fr := (0, 0)) (e := 3) (hk.heap (heap_alloc_new w7 _) (by
        have := hp7.lt
        rintro (e | e)
        · omega
        · have := (hp7.row _ e).2
          omega)) (Nat.le_refl _) (by simp [maxLen])) (by intro n hn; simp at hn; omega) (by have := (encI_length (t.length : Int) (by omega)).1; simp only [textB, List.length_append, List.length_singleton]; omega)
    rw [show encIs [5] = encI 5 by simp [encIs]] at wi
    have hpA := hp7.alloc (.cells #[.int .i64 5] 3)
    have hbA : Below w6.heap.size w6 (w7.alloc (.cells #[.int .i64 5] 3)) := hb7.alloc hb7.size _
    go_wp2_with fail
    refine wi.mono ?_
    rintro e w8 ⟨rfl, v8, hp8, hk8, _⟩
    have hb8 := hbA.trans (hpA.low hk8)
    have hb68 := hb6.trans (hb8.mono hsz6)
    clear wi hpA hbA hk8 hp7 hb67 hb7
    go_wp2_with fail
    refine (WBytes_ok _ _ _ _ hp8 (by have := (encI_length (t.length : Int) (by omega)).1; have := (encI_length 5 (by omega)).1; simp only [textB, List.length_append]; omega)).mono ?_
    rintro e w9 ⟨⟨r9, rfl, hr9⟩, hb9⟩
    obtain ⟨a9, n9, c9, rfl, Hn9, hr9⟩ := OwnB.named hr9
    have hb69 := hb68.next hb9
    have hb99 := hb8.next hb9
    have hl9 : (textB t ++ encI 5).length ≤ 70000 := by have := (encI_length (t.length : Int) (by omega)).1; have := (encI_length 5 (by omega)).1; simp only [textB, List.length_append]; omega
    clear hp8 hb8
    go_wp2_with fail
    refine (NewReader_any _ _ _ hr9.bs (by omega)).mono ?_
    rintro e w10 ⟨gr, rfl, hgr, hrd, hb10⟩
    have hsz9 := hb69.size
    have hbt := hbs.mono (hb99.next hb10)
    have hbx := hb69.next hb10
    have rt := RText_any w10 gr _ hrd (by simp only; omega)
    unfold RTPost at rt
    rw [rT_text t (encI 5) (by omega)] at rt
    clear hr9 hb9
    have ri := fun W (h : RD W gr (encI 5, 0)) => RInt_any W gr (encI 5, 0) h (by have := (encI_length 5 (by omega)).1; simp only; omega)
    have h5 := rI_enc 5 [] (by omega)
    rw [List.append_nil] at h5
    rw [h5] at ri
    have rd := fun W h => Done_any W gr ([], 0) h
    rw [show rD ([], 0) = 0 from rfl] at rd
    have hgr2 : w6.heap.size ≤ gr := Nat.le_trans (hb99.size) hgr
    have hlt10 := hrd.lt
    clear h5 hrd
    go_wp2_with (first
      | (go_at_call 20; refine rt.mono ?_; rintro e w11 ⟨r11, rfl, ho11, h11, hk11⟩; obtain ⟨a11, n11, c11, rfl, Hn11, ho11⟩ := OwnB.named ho11; have hbt11 := hbt.kept1 hk11 (fun hn k hi e => by have := hbs.inlt hn hi; omega))
      | (go_at_call 15; refine (Bytes_same _ _ _ _ ho11.bs hbt11).mono ?_; rintro e w12 ⟨rfl, hb12⟩; have h12 := h11.below hb12)
      | (go_at_call 21; refine (ri _ h12).mono ?_; rintro e w13 ⟨rfl, h13, hk13⟩)
      | (go_at_call 22; refine (rd _ h13).mono ?_; rintro e w14 ⟨rfl, rfl⟩)
      | (go_at_call 14; refine (wakes_any _).mono ?_; rintro e w15 ⟨rfl, hb15⟩)
      | fail)
    go_ret
    have hA := hbx.trans (hk11.lowG (by omega) hlt10)
    have hB := hA.next hb12
    exact ⟨rfl, (hB.trans (hk13.lowG (by omega) h12.lt)).next hb15⟩
  · clear h0 h2
    go_enter Try.func4, Try.ntmps4
    go_wp2_with (first | (at_make; refine make_bytes_some rfl _ _ 25 rfl elem_byte zero_byte 65536 rfl rfl (by omega) ?_; intro g cap w5 t0 _ hl0 ho5 hg hb5; obtain ⟨hc5, hf5⟩ := ho5.cellIn (j := 0) (by omega)) | fail)
    have ho6 := ho5.putAt (j := 0) c
    have hb6 : Below w.heap.size w (w5.setCell ⟨g, 0, none⟩ (.int .u8 (c.toNat : Int))) := hb5.setCell hg _
    obtain ⟨t, ht⟩ : ∃ t, t = t0.set 0 c := ⟨_, rfl⟩
    have hlen : t.length = 65536 := by rw [ht, List.length_set, hl0]
    rw [← ht] at ho6
    have hz : (w5.setCell ⟨g, 0, none⟩ (.int .u8 (c.toNat : Int))).heap.size = w5.heap.size := by simp
    clear ht ho5 hb5 hc5 hf5
    generalize w5.setCell ⟨g, 0, none⟩ (.int .u8 (c.toNat : Int)) = w6 at *
    rw [← hz]
    clear hz
    have hsz6 := hb6.size
    have hp0 := PW.new (w := w6) rfl
    have hbs := ho6.bs
    have wt := WText_ok _ w6.heap.size _ [] false (.slice (some ⟨g, 0, none⟩) 65536 cap) t hp0 (hbs.alloc _) (fun w' hk => (hbs.alloc _).kept1 hk (fun hn k hi e => by
      have := hbs.inlt hn hi
      rcases e with e | e
      · omega
      · simp [Value.ownBlock] at e)) (by omega) (by simp)
    rw [List.nil_append] at wt
    refine wt.mono ?_
    rintro e w7 ⟨rfl, v7, hp7, hk7, _⟩
    have hb7 : Below w6.heap.size w6 w7 := (Kept.below (((Kept.refl _ w6).alloc _).trans hk7 (fun _ _ h => h)) (by
      rintro k hk (e | e)
      · omega
      · simp [Value.ownBlock] at e) (Nat.le_refl _))
    have hb67 := hb6.trans (hb7.mono hsz6)
    clear wt hp0 hk7
    have wi := WInt_any (w7.alloc (.cells #[.int .i64 5] 3)) w6.heap.size v7 (textB t) false (.slice (some ⟨w7.heap.size, 0, none⟩) 1 1) [5] (hp7.alloc _) (Is.lit1 w7 _ _)
      (fun w' hk => Is.block (l := [5]) (fr := (0, 0)) (e := 3) (hk.heap (heap_alloc_new w7 _) (by
        have := hp7.lt
        rintro (e | e)
        · omega
        · have := (hp7.row _ e).2
          omega)) (Nat.le_refl _) (by simp [maxLen])) (by intro n hn; simp at hn; omega) (by have := (encI_length (t.length : Int) (by omega)).1; simp only [textB, List.length_append, List.length_singleton]; omega)
    rw [show encIs [5] = encI 5 by simp [encIs]] at wi
    have hpA := hp7.alloc (.cells #[.int .i64 5] 3)
    have hbA : Below w6.heap.size w6 (w7.alloc (.cells #[.int .i64 5] 3)) := hb7.alloc hb7.size _
    go_wp2_with fail
    refine wi.mono ?_
    rintro e w8 ⟨rfl, v8, hp8, hk8, _⟩
    have hb8 := hbA.trans (hpA.low hk8)
    have hb68 := hb6.trans (hb8.mono hsz6)
    clear wi hpA hbA hk8 hp7 hb67 hb7
    go_wp2_with fail
    refine (WBytes_ok _ _ _ _ hp8 (by have := (encI_length (t.length : Int) (by omega)).1; have := (encI_length 5 (by omega)).1; simp only [textB, List.length_append]; omega)).mono ?_
    rintro e w9 ⟨⟨r9, rfl, hr9⟩, hb9⟩
    obtain ⟨a9, n9, c9, rfl, Hn9, hr9⟩ := OwnB.named hr9
    have hb69 := hb68.next hb9
    have hb99 := hb8.next hb9
    have hl9 : (textB t ++ encI 5).length ≤ 70000 := by have := (encI_length (t.length : Int) (by omega)).1; have := (encI_length 5 (by omega)).1; simp only [textB, List.length_append]; omega
    clear hp8 hb8
    go_wp2_with fail
    refine (NewReader_any _ _ _ hr9.bs (by omega)).mono ?_
    rintro e w10 ⟨gr, rfl, hgr, hrd, hb10⟩
    have hsz9 := hb69.size
    have hbt := hbs.mono (hb99.next hb10)
    have hbx := hb69.next hb10
    have rt := RText_any w10 gr _ hrd (by simp only; omega)
    unfold RTPost at rt
    rw [rT_text t (encI 5) (by omega)] at rt
    clear hr9 hb9
    have ri := fun W (h : RD W gr (encI 5, 0)) => RInt_any W gr (encI 5, 0) h (by have := (encI_length 5 (by omega)).1; simp only; omega)
    have h5 := rI_enc 5 [] (by omega)
    rw [List.append_nil] at h5
    rw [h5] at ri
    have rd := fun W h => Done_any W gr ([], 0) h
    rw [show rD ([], 0) = 0 from rfl] at rd
    have hgr2 : w6.heap.size ≤ gr := Nat.le_trans (hb99.size) hgr
    have hlt10 := hrd.lt
    clear h5 hrd
    go_wp2_with (first
      | (go_at_call 20; refine rt.mono ?_; rintro e w11 ⟨r11, rfl, ho11, h11, hk11⟩; obtain ⟨a11, n11, c11, rfl, Hn11, ho11⟩ := OwnB.named ho11; have hbt11 := hbt.kept1 hk11 (fun hn k hi e => by have := hbs.inlt hn hi; omega))
      | (go_at_call 15; refine (Bytes_same _ _ _ _ ho11.bs hbt11).mono ?_; rintro e w12 ⟨rfl, hb12⟩; have h12 := h11.below hb12)
      | (go_at_call 21; refine (ri _ h12).mono ?_; rintro e w13 ⟨rfl, h13, hk13⟩)
      | (go_at_call 22; refine (rd _ h13).mono ?_; rintro e w14 ⟨rfl, rfl⟩)
      | (go_at_call 14; refine (wakes_any _).mono ?_; rintro e w15 ⟨rfl, hb15⟩)
      | fail)
    go_ret
    have hA := hbx.trans (hk11.lowG (by omega) hlt10)
    have hB := hA.next hb12
    exact ⟨rfl, (hB.trans (hk13.lowG (by omega) h12.lt)).next hb15⟩
  · clear h0 h2
    go_enter Try.func4, Try.ntmps4
    go_wp2_with (first | (at_make; refine make_bytes_some rfl _ _ 25 rfl elem_byte zero_byte 65537 rfl rfl (by omega) ?_; intro g cap w5 t0 _ hl0 ho5 hg hb5; obtain ⟨hc5, hf5⟩ := ho5.cellIn (j := 0) (by omega)) | fail)
    have ho6 := ho5.putAt (j := 0) c
    have hb6 : Below w.heap.size w (w5.setCell ⟨g, 0, none⟩ (.int .u8 (c.toNat : Int))) := hb5.setCell hg _
    obtain ⟨t, ht⟩ : ∃ t, t = t0.set 0 c := ⟨_, rfl⟩
    have hlen : t.length = 65537 := by rw [ht, List.length_set, hl0]
    rw [← ht] at ho6
    have hz : (w5.setCell ⟨g, 0, none⟩ (.int .u8 (c.toNat : Int))).heap.size = w5.heap.size := by simp
    clear ht ho5 hb5 hc5 hf5
    generalize w5.setCell ⟨g, 0, none⟩ (.int .u8 (c.toNat : Int)) = w6 at *
    rw [← hz]
    clear hz
    have hsz6 := hb6.size
    have hp0 := PW.new (w := w6) rfl
    have hbs := ho6.bs
    have wt := WText_long _ w6.heap.size _ [] false (.slice (some ⟨g, 0, none⟩) 65537 cap) t hp0 (hbs.alloc _) (by omega)
    refine wt.mono ?_
    rintro e w7 ⟨rfl, v7, hp7, hk7, _⟩
    have hb7 : Below w6.heap.size w6 w7 := (Kept.below (((Kept.refl _ w6).alloc _).trans hk7 (fun _ _ h => h)) (by
      rintro k hk (e | e)
      · omega
      · simp [Value.ownBlock] at e) (Nat.le_refl _))
    have hb67 := hb6.trans (hb7.mono hsz6)
    clear wt hp0 hk7
    have wi := WInt_any (w7.alloc (.cells #[.int .i64 5] 3)) w6.heap.size v7 ([]) true (.slice (some ⟨w7.heap.size, 0, none⟩) 1 1) [5] (hp7.alloc _) (Is.lit1 w7 _ _)
      (fun w' hk => Is.block (l := [5]) (fr := (0, 0)) (e := 3) (hk.heap (heap_alloc_new w7 _) (by
        have := hp7.lt
        rintro (e | e)
        · omega
        · have := (hp7.row _ e).2
          omega)) (Nat.le_refl _) (by simp [maxLen])) (by intro n hn; simp at hn; omega) (by simp)
    rw [show encIs [5] = encI 5 by simp [encIs]] at wi
    have hpA := hp7.alloc (.cells #[.int .i64 5] 3)
    have hbA : Below w6.heap.size w6 (w7.alloc (.cells #[.int .i64 5] 3)) := hb7.alloc hb7.size _
    go_wp2_with fail
    refine wi.mono ?_
    rintro e w8 ⟨rfl, v8, hp8, hk8, _⟩
    have hb8 := hbA.trans (hpA.low hk8)
    have hb68 := hb6.trans (hb8.mono hsz6)
    clear wi hpA hbA hk8 hp7 hb67 hb7
    go_wp2_with fail
    refine (WBytes_no _ _ _ _ hp8).mono ?_
    rintro e w9 ⟨rfl, rfl⟩
    go_wp2_with (first | (go_at_call 14; refine (wakes_any _).mono ?_; rintro e w10 ⟨rfl, hb10⟩) | fail)
    go_ret
    exact ⟨rfl, hb68.next hb10⟩

end Cam
