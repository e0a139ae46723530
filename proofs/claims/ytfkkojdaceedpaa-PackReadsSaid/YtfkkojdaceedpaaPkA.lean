import Derived.Test.YtfkkojdaceedpaaPkH
/- cambistlaw04: want. -/
namespace Cam
open Go Go.RowKit Go.Proofs

theorem markB_length (b : Bool) : (markB b).length = 1 := by cases b <;> rfl
theorem itB_length (x : Item) (h : x.l.length ≤ 200) (hr : ∀ n ∈ x.l, -9223372036854775808 ≤ n ∧ n ≤ 9223372036854775807) : (itB x).length ≤ 70000 := by
  unfold itB
  split
  · have := encIs_length x.l hr
    omega
  · split
    · rw [markB_length]; omega
    · split
      · simp
      · have := (encI_length (x.t.length : Int) (by omega)).1
        simp only [textB, List.length_append]
        omega
theorem itsB_length (l : List Item) (h : ∀ x ∈ l, x.l.length ≤ 200 ∧ ∀ n ∈ x.l, -9223372036854775808 ≤ n ∧ n ≤ 9223372036854775807) : (itsB l).length ≤ 70000 * l.length := by
  induction l with
  | nil => simp [itsB]
  | cons a l ih =>
    have h1 := itB_length a (h a (by simp)).1 (h a (by simp)).2
    have h2 := ih (fun x hx => h x (by simp [hx]))
    simp only [itsB, List.map_cons, List.flatten_cons, List.length_append, List.length_cons] at *
    omega

def WantPost (w : World) (l : List Item) (e : Ending) (w' : World) : Prop := ∃ r, e = .returned (.tuple #[r, .bool (!itsLong l)]) ∧ OwnB 5 w' w.heap.size r (itsB l) ∧ Below w.heap.size w w'

set_option maxRecDepth 100000 in
set_option maxHeartbeats 1600000 in
theorem want_any (w : World) (v : Value) (l : List Item) (h : Its w v l) (hn : l.length ≤ 200) (hx : ∀ x ∈ l, x.l.length ≤ 200 ∧ ∀ n ∈ x.l, -9223372036854775808 ≤ n ∧ n ≤ 9223372036854775807) :
    Calls Try.prog 12 #[v] w (WantPost w l) := by
  obtain ⟨a, cap, rfl, hcap, hm⟩ := h.shape
  have HX := Lib.hid hx
  clear hx
  go_enter Try.func12, Try.ntmps12
  go_wp2_with fail
  go_loopw [4, 5, 6] (fun s ok i wr => ∃ (k : Nat) (a2 : Option Addr) (n2 c2 : Nat), k ≤ l.length ∧ i = .int .i64 k ∧ s = .slice a2 n2 c2 ∧ ok = .bool (!itsLong (l.take k)) ∧ OwnB 5 wr w.heap.size (.slice a2 n2 c2) (itsB (l.take k)) ∧ Below w.heap.size w wr) (fun _ _ i _ => l.length - (intOf i).toNat)
  case atStart => exact ⟨0, none, 0, 0, Nat.zero_le _, rfl, rfl, rfl, OwnB.empty _ _ _, Below.refl _ _⟩
  case round =>
    obtain ⟨k, a2, n2, c2, hk, rfl, rfl, rfl, hown, hb⟩ := hrel
    by_cases hlt : k < l.length
    · obtain ⟨b, off, rfl, _, hc⟩ := (h.mono hb).at (by omega)
      obtain ⟨vl, vt, ⟨hc0, hc1, hc2, hc3⟩, hil, hbt⟩ := hc k hlt
      clear hc
      obtain ⟨x, hx⟩ : ∃ x, x = l[k] := ⟨_, rfl⟩
      have hxx := HX.out _ (List.getElem_mem hlt)
      rw [← hx] at hil hbt hc0 hc2 hxx
      have hll := itsB_length (l.take k) (fun y hy => HX.out y (List.mem_of_mem_take hy))
      have hl2 : (l.take k).length ≤ l.length := List.length_take_le' _ _
      have hel := itB_length x hxx.1 hxx.2
      have HB' : itsB (l.take k) ++ itB x = itsB (l.take (k + 1)) := by rw [take_snoc l k hlt, itsB_snoc, ← hx]
      have HO' : itsLong (l.take (k + 1)) = (itsLong (l.take k) || itLong x) := by rw [take_snoc l k hlt, itsLong_snoc, ← hx]
      obtain ⟨al, cl, rfl, _, _⟩ := hil.shape
      obtain ⟨at_, ct, rfl, _, _⟩ := hbt.shape
      generalize itsB (l.take k) = m at *
      generalize itsLong (l.take k) = z at *
      have HX2 := Lib.hid hxx
      clear hx hxx
      rcases ck_cases x.kind with hkk | hkk | hkk
      · have e1 : itB x = encIs x.l := by unfold itB; rw [if_pos hkk]
        have e2 : itLong x = false := by simp [itLong, hkk]
        rw [e1] at HB' hel
        rw [e2, Bool.or_false] at HO'
        have HB := Lib.hid HB'
        have HO := Lib.hid HO'
        have hk' : (IntKind.u64.wrap x.kind).tmod 3 = 0 := hkk
        have en := fun (w : World) h => rEncs_any w (.slice al x.l.length cl) x.l h HX2.out.2 (by have := HX2.out.1; omega)
        clear e1 e2 hkk HB' HO'
        go_wp2_with fail
        refine (en _ hil).mono ?_
        rintro e w1 ⟨r, rfl, hr1, hb1⟩
        obtain ⟨a3, n3, c3, rfl, Hn3, _⟩ := OwnB.named hr1
        have ho1 := hown.below hb1
        have hbb := hb.next hb1
        have hsz := hbb.size
        go_wp2_with (first | (at_builtin; refine wpList_append_bytes (v := .slice a2 n2 c2) rfl (.tmp 37) (.tmp 43) 25 rfl (m := encIs x.l) (base := w.heap.size) elem_byte rfl rfl ho1 hr1.bs (by omega) hsz ?_; intro a' n' c' w' Hn' ho' hb' hg'))
        rw [HB.out] at ho'
        exact ⟨⟨k + 1, _, _, _, by omega, by push_cast; rfl, rfl, by rw [HO.out], ho', hbb.trans hb'⟩, by simp [intOf]; omega⟩
      · have e1 : itB x = markB x.is := by unfold itB; rw [if_neg (by omega), if_pos hkk]
        have e2 : itLong x = false := by simp [itLong, hkk]
        rw [e1] at HB' hel
        rw [e2, Bool.or_false] at HO'
        have HB := Lib.hid HB'
        have HO := Lib.hid HO'
        have hk' : (IntKind.u64.wrap x.kind).tmod 3 = 1 := hkk
        clear e1 e2 hkk HB' HO'
        go_wp2_with fail
        refine (rMark_any _ x.is).mono ?_
        rintro e w1 ⟨r, rfl, hr1, hb1⟩
        obtain ⟨a3, n3, c3, rfl, Hn3, _⟩ := OwnB.named hr1
        have ho1 := hown.below hb1
        have hbb := hb.next hb1
        have hsz := hbb.size
        go_wp2_with (first | (at_builtin; refine wpList_append_bytes (v := .slice a2 n2 c2) rfl (.tmp 47) (.tmp 53) 25 rfl (m := markB x.is) (base := w.heap.size) elem_byte rfl rfl ho1 hr1.bs (by omega) hsz ?_; intro a' n' c' w' Hn' ho' hb' hg'))
        rw [HB.out] at ho'
        exact ⟨⟨k + 1, _, _, _, by omega, by push_cast; rfl, rfl, by rw [HO.out], ho', hbb.trans hb'⟩, by simp [intOf]; omega⟩
      · have hk' : (IntKind.u64.wrap x.kind).tmod 3 = 2 := hkk
        by_cases hlong : 65536 < x.t.length
        · have e1 : itB x = [] := by unfold itB; rw [if_neg (by omega), if_neg (by omega), if_pos hlong]
          have e2 : itLong x = true := by simp [itLong, hkk, hlong]
          rw [e1, List.append_nil] at HB'
          rw [e2, Bool.or_true] at HO'
          have HB := Lib.hid HB'
          have HO := Lib.hid HO'
          have hli : (65536 : Int) < (x.t.length : Int) := by omega
          clear e1 e2 hkk HB' HO'
          go_wp2_with fail
          rw [HB.out] at hown
          exact ⟨⟨k + 1, _, _, _, by omega, by push_cast; rfl, rfl, by rw [HO.out]; rfl, hown, hb⟩, by simp [intOf]; omega⟩
        · have e1 : itB x = textB x.t := by unfold itB; rw [if_neg (by omega), if_neg (by omega), if_neg hlong]
          have e2 : itLong x = false := by simp [itLong, hlong]
          rw [e1] at HB' hel
          rw [e2, Bool.or_false] at HO'
          have HB := Lib.hid HB'
          have HO := Lib.hid HO'
          have hli : decide ((65536 : Int) < (x.t.length : Int)) = false := by simp; omega
          clear e1 e2 hkk HB' HO'
          go_wp2_with fail
          refine (rText_any _ _ x.t hbt (by omega)).mono ?_
          rintro e w1 ⟨r, rfl, hr1, hb1⟩
          obtain ⟨a3, n3, c3, rfl, Hn3, _⟩ := OwnB.named hr1
          have ho1 := hown.below hb1
          have hbb := hb.next hb1
          have hsz := hbb.size
          go_wp2_with (first | (at_builtin; refine wpList_append_bytes (v := .slice a2 n2 c2) rfl (.tmp 27) (.tmp 33) 25 rfl (m := textB x.t) (base := w.heap.size) elem_byte rfl rfl ho1 hr1.bs (by omega) hsz ?_; intro a' n' c' w' Hn' ho' hb' hg'))
          rw [HB.out] at ho'
          exact ⟨⟨k + 1, _, _, _, by omega, by push_cast; rfl, rfl, by rw [HO.out], ho', hbb.trans hb'⟩, by simp [intOf]; omega⟩
    · rw [List.take_of_length_le (by omega)] at hown
      rw [List.take_of_length_le (by omega)]
      go_wp2_with fail
      go_ret2
      exact ⟨_, rfl, hown, hb⟩

end Cam
