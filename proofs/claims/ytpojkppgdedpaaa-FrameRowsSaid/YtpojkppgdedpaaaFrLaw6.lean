import Derived.Test.YtpojkppgdedpaaaFrLaw4
/- FrameRows: the walk. -/
namespace Cam
open Go Go.RowKit Go.Proofs

/-- frames one behind the other, numbered from i on -/
def cat (g : Nat) : Nat → List (List UInt8) → List UInt8
  | _, [] => []
  | i, l :: ls => sealB g i l ++ cat g (i + 1) ls

theorem cat_append (g i : Nat) (a b : List (List UInt8)) : cat g i (a ++ b) = cat g i a ++ cat g (i + a.length) b := by
  induction a generalizing i with
  | nil => simp [cat]
  | cons l a ih => rw [List.cons_append, cat, ih, cat, List.append_assoc, List.length_cons]; congr 3; omega

theorem cat_snoc (g k : Nat) (ls : List (List UInt8)) (h : k < ls.length) : cat g 0 (ls.take (k + 1)) = cat g 0 (ls.take k) ++ sealB g k ls[k] := by
  rw [take_snoc _ _ h, cat_append, cat, cat, List.append_nil, List.length_take, Nat.min_eq_left (by omega), Nat.zero_add]

theorem cat_drop (g k : Nat) (ls : List (List UInt8)) (h : k < ls.length) : cat g k (ls.drop k) = sealB g k ls[k] ++ cat g (k + 1) (ls.drop (k + 1)) := by
  rw [List.drop_eq_getElem_cons h, cat]

/-- 'make([]byte, n)', n a constant -/
theorem wpList_make_bytes {P : Program} {w : World} {ops : Array Oper} {rest : List Oper} {o : Oper} {a : Act} {Q : Exit → Act → World → Prop}
    (hg : o.guard = none) (l c : Operand) (t : TypeId) (hop : o.op = Op.makeSlice t l c) {e : Nat} (E : Elem P t e 1 1) (hz : ∀ i, P.info? e = some i → i.zero = some (.int .u8 0)) (n : Nat) (hl : a.eval l = .int .i64 n) (hc : a.eval c = .int .i64 n)
    (hn : n ≤ 140737488355328)
    (h : ∀ a' c' w', OwnB e w' w.heap.size (.slice a' n c') (List.replicate n 0) → Below w.heap.size w w' → wpList P ops Q rest (a.put o.dst (.slice a' n c')) w') : wpList P ops Q (o :: rest) a w := by
  obtain ⟨ht, ⟨i, z, hi, hz', hs, hby, hzs⟩, hp⟩ := E
  have hzz := hz i hi
  rw [hz'] at hzz
  cases hzz
  refine wpList_make_full w hg l c t hop w.heap.size e i (.int .u8 0) 1 ht hi hz' hs .i64 .i64 n n n hl hc rfl rfl (by rw [hby]; omega) (by unfold maxLen; omega) (Nat.le_refl _) (fun w' h1 h2 => ?_)
  refine h _ _ w' ?_ ((Below.refl _ _).grown h2 (Nat.le_refl _) (fun k hk => by cases hk))
  unfold OwnB
  rw [List.length_replicate]
  have e1 : (madeCells (Value.int .u8 0).cells (n * 1)).toList = bvs (List.replicate n 0) := by
    show (madeCells #[Value.int .u8 0] (n * 1)).toList = _
    rw [toList_madeCells_one, Nat.mul_one]
    unfold bvs
    rw [List.map_replicate]
    rfl
  rw [← e1]
  exact h1

theorem zero_u8 : ∀ i, Try.prog.info? 5 = some i → i.zero = some (.int .u8 0) := by
  intro i hi
  have h : (Try.prog.info? 5).map (·.zero) = some (some (.int .u8 0)) := by kernel_rfl
  rw [hi] at h
  simpa using h

theorem short_noFrame (c : UInt8) : ¬ isFrame [c] := fun h => by have := h.1; simp at this

set_option maxRecDepth 100000 in
set_option maxHeartbeats 6400000 in
theorem FrameRows_walk (w : World) (vr : Value) (ls : List (List UInt8)) (gen : Int) (more : UInt8) (h : Bss w vr ls) :
    Calls Try.prog 9 #[vr, .int .i64 gen, .int .u8 (more.toNat : Int)] w fun e w' => e = .returned (.bool true) ∧ Below w.heap.size w w' := by
  obtain ⟨vs, hvl, hsl, hbs⟩ := h
  obtain ⟨a, cap, rfl, hcap, hm⟩ := hsl.shape
  have Hvl := Lib.hid hvl
  clear hvl
  by_cases h1 : 100 < (ls.length : Int)
  · go_enter Try.func9, Try.ntmps9
    go_wp2
    go_ret
    exact ⟨rfl, Below.refl _ _⟩
  by_cases h2 : gen < 0
  · go_enter Try.func9, Try.ntmps9
    go_wp2
    go_ret
    exact ⟨rfl, Below.refl _ _⟩
  by_cases h3 : 1099511627776 < gen
  · go_enter Try.func9, Try.ntmps9
    go_wp2
    go_ret
    exact ⟨rfl, Below.refl _ _⟩
  by_cases h4 : more = 195
  · have h4' : ((more.toNat : Int) == 195) = true := by rw [h4]; rfl
    clear h4
    go_enter Try.func9, Try.ntmps9
    go_wp2
    go_ret
    exact ⟨rfl, Below.refl _ _⟩
  have h4' : ((more.toNat : Int) == 195) = false := by
    rw [beq_eq_false_iff_ne]
    intro e
    exact h4 (UInt8.toNat_inj.1 (by show _ = 195; omega))
  clear h4
  obtain ⟨g, rfl⟩ : ∃ g : Nat, gen = g := ⟨gen.toNat, by omega⟩
  have hg : g ≤ 1099511627776 := by omega
  go_enter Try.func9, Try.ntmps9
  go_wp2
  go_loopw [7, 8] (fun s i wr => ∃ (k : Nat) (a' : Option Addr) (n' c' : Nat) (all : List UInt8), k ≤ ls.length ∧ i = .int .i64 k ∧ s = .slice a' n' c' ∧ OwnB 5 wr w.heap.size (.slice a' n' c') all ∧ Hid (all = cat g 0 (ls.take k)) ∧ Below w.heap.size w wr ∧ all.length ≤ k * 1021 ∧ Hid (∀ j (hj : j < ls.length), j < k → ls[j].length ≤ 1000)) (fun _ i _ => ls.length - (intOf i).toNat)
  case atStart => exact ⟨0, none, 0, 0, [], Nat.zero_le _, rfl, rfl, OwnB.empty _ _ _, rfl, Below.refl _ _, by simp, fun j _ hj => by omega⟩
  case round =>
    obtain ⟨k, a', n', c', all, hk, rfl, rfl, hown, Hall, hbel, hlen, Hsm⟩ := hrel
    by_cases hlt : k < ls.length
    · have hlv : k < vs.length := by rw [Hvl.out]; exact hlt
      obtain ⟨b, off, rfl, _, hc⟩ := (hsl.mono hbel).at (by omega)
      have hck := hc k hlv
      have hbk := (hbs k hlt hlv).mono hbel
      clear hc
      obtain ⟨ak, capk, hv, hcapk, hmk⟩ := hbk.shape
      obtain ⟨l, hl⟩ : ∃ l, l = ls[k] := ⟨_, rfl⟩
      rw [hv] at hck hbk
      rw [← hl] at hck hbk hcapk
      have Hl := Lib.hid hl
      clear hv hl
      by_cases hbig : 1000 < (l.length : Int)
      · go_wp2
        go_ret
        exact ⟨rfl, hbel⟩
      · go_wp2_with fail
        refine (Seal_ok _ _ g k l hbk hg (by omega) (by omega)).mono ?_
        rintro e w1 ⟨v1, rfl, ho1, hb1⟩
        obtain ⟨a1, n1, c1, rfl, Hn1, ho1⟩ := ho1.named
        have hsz := (hbel.next hb1).size
        go_wp2_with (at_builtin; refine wpList_append_bytes rfl (.tmp 65) (.tmp 66) 23 rfl elem_u8 rfl rfl (hown.below hb1) ho1.bs (by rw [sealB_length]; omega) hsz ?_; intro a2 n2 c2 w2 Hn2 ho2 hb2 _)
        go_roundw
        case rel =>
          refine ⟨k + 1, a2, n2, c2, _, by omega, by go_num, rfl, ho2, ?_, (hbel.next hb1).trans hb2, ?_, ?_⟩
          · show _ = _
            rw [cat_snoc _ _ _ hlt, ← Hall.out, ← Hl.out]
          · rw [List.length_append, sealB_length]; omega
          · intro j hj hjk
            rcases Nat.lt_or_ge j k with h | h
            · exact Hsm.out j hj h
            · obtain rfl : j = k := by omega
              rw [← Hl.out]; omega
        case measure => simp [intOf]; omega
    · obtain rfl : k = ls.length := by omega
      have hsz := hbel.size
      have Hall2 : Hid (all ++ [more] = cat g 0 (ls.drop 0) ++ [more]) := by show _ = _; rw [Hall.out, List.take_length, List.drop_zero]
      go_wp2_with (at_builtin; refine wpList_append_bytes (l := all) (m := [more]) rfl (.tmp 68) (.tmp 70) 23 rfl elem_u8 rfl rfl (hown.alloc _) (Sl.one _ _ _) (by simp; omega) (by simp; omega) ?_; intro a2 n2 c2 w2 Hn2 ho2 hb2 _)
      have hbw2 : Below w.heap.size w w2 := (hbel.alloc hsz _).trans hb2
      have hbs2 := ho2.bs
      rw [Hall2.out] at hbs2
      have Hn2' : Hid (n2 = (cat g 0 (ls.drop 0) ++ [more]).length) := by show _ = _; rw [← Hall2.out, List.length_append]; exact Hn2.out
      have hlast : (cat g 0 (ls.drop 0) ++ [more]).length ≤ 102101 := by rw [← Hall2.out, List.length_append]; simp; omega
      clear ho2 Hn2 hown
      go_loopw [7, 11] (fun s i wr => ∃ (k : Nat) (a' : Option Addr) (n' c' : Nat), k ≤ ls.length ∧ i = .int .i64 k ∧ s = .slice a' n' c' ∧ Bs wr (.slice a' n' c') (cat g k (ls.drop k) ++ [more]) ∧ Hid (n' = (cat g k (ls.drop k) ++ [more]).length) ∧ n' ≤ 102101 ∧ Below w.heap.size w wr) (fun _ i _ => ls.length - (intOf i).toNat)
      case atStart => exact ⟨0, a2, n2, c2, Nat.zero_le _, rfl, rfl, hbs2, Hn2', by rw [Hn2'.out]; exact hlast, hbw2⟩
      case round =>
        obtain ⟨k, a', n', c', hk, rfl, rfl, hcur, Hn', hn1, hbel2⟩ := hrel
        by_cases hlt : k < ls.length
        · have hlv : k < vs.length := by rw [Hvl.out]; exact hlt
          obtain ⟨b, off, rfl, _, hc⟩ := (hsl.mono hbel2).at (by omega)
          have hck := hc k hlv
          have hbk := (hbs k hlt hlv).mono hbel2
          clear hc
          obtain ⟨ak, capk, hv, hcapk, hmk⟩ := hbk.shape
          obtain ⟨l, hl⟩ : ∃ l, l = ls[k] := ⟨_, rfl⟩
          have hl1000 : l.length ≤ 1000 := by rw [hl]; exact Hsm.out k hlt (by omega)
          obtain ⟨rest, hrest⟩ : ∃ rest, rest = cat g (k + 1) (ls.drop (k + 1)) ++ [more] := ⟨_, rfl⟩
          have hsplit : cat g k (ls.drop k) ++ [more] = sealB g k l ++ rest := by rw [cat_drop _ _ _ hlt, ← hl, List.append_assoc, ← hrest]
          rw [hsplit] at hcur Hn'
          rw [hv] at hck hbk
          rw [← hl] at hck hbk hcapk
          have Hrest := Lib.hid hrest
          clear hv hl hsplit hrest
          have hnl : n' = (l.length + 21) + rest.length := by have := Hn'.out; rw [List.length_append, sealB_length] at this; exact this
          have Hnl := Lib.hid hnl
          clear hnl
          have hkg : k ≤ 2147483647 := by omega
          go_wp2_with fail
          refine (First_any _ _ _ hcur).mono ?_
          rintro e w3 hpost
          rcases hpost with ⟨_, v3, rfl, ho3, hb3⟩ | ⟨hf, _, _⟩
          · obtain ⟨a3, n3, c3, rfl, Hn3, ho3⟩ := ho3.named
            rw [fGen_seal rest hg, fNo_seal rest hkg, frLen_seal rest (by omega)]
            rw [fBody_seal rest (by omega)] at ho3
            have hbel3 := hbel2.next hb3
            have hck3 : w3.cell? ⟨b, off + k, none⟩ = some (.slice ak l.length capk) := by
              rw [hb3.cell (World.block_lt_of_cell? wr _ hck)]
              exact hck
            have hnl := Hnl.out
            obtain ⟨NN, hNN⟩ : ∃ NN : Nat, NN = l.length + 21 := ⟨_, rfl⟩
            have hNc : ((NN : Int) != (l.length : Int) + 21) = false := by simp; omega
            have hNn : NN ≤ n' := by omega
            have hN2 : NN + rest.length = n' := by omega
            have hN3 : n' - NN = rest.length := by omega
            have hdrop : ((sealB g k l ++ rest).drop NN).take (n' - NN) = rest := by
              rw [List.drop_append_of_le_length (by rw [sealB_length]; omega), List.drop_of_length_le (by rw [sealB_length]; omega), List.nil_append, List.take_of_length_le (by omega)]
            have hcx := Bs.cut (hcur.mono hb3) NN n' (by omega) (by rw [← Hn'.out]; exact Nat.le_refl _)
            rw [hdrop] at hcx
            obtain ⟨_, cc, hsh, hcc, hmm⟩ := hcur.shape
            have hnc' : n' ≤ c' := by simp only [Value.slice.injEq] at hsh; omega
            have hm3 : c' ≤ 9223372036854775807 := by simp only [Value.slice.injEq] at hsh; omega
            rw [← hNN]
            have Hcx := Lib.hid hcx
            have HNN := Lib.hid hNN
            have HN3 := Lib.hid hN3
            have HN2 := Lib.hid hN2
            clear hcx hNN hdrop hsh hnl hN3 hN2 hcur
            go_wp2_with fail
            refine (Bytes_any _ _ _ _ _ ho3.bs (hbk.mono hb3)).mono ?_
            rintro e w4 ⟨rfl, hb4⟩
            rw [decide_eq_true rfl]
            have hbel4 := hbel3.next hb4
            have hck4 : w4.cell? ⟨b, off + k, none⟩ = some (.slice ak l.length capk) := by
              rw [hb4.cell (World.block_lt_of_cell? w3 _ hck3)]
              exact hck3
            go_wp2
            go_roundw
            case rel =>
              refine ⟨k + 1, _, _, _, by omega, by go_num, rfl, ?_, ?_, by omega, hbel4⟩
              · have := Hcx.out.mono hb4
                rw [Nat.mul_one] at this
                rw [← Hrest.out]
                exact this
              · show _ = _
                rw [← Hrest.out]
                exact HN3.out
            case measure => simp [intOf]; omega
          · exact absurd (isFrame_seal rest hg hkg (by omega)) hf
        · obtain rfl : k = ls.length := by omega
          rw [List.drop_length] at hcur
          have hcur' : Bs wr (.slice a' n' c') [more] := hcur
          go_wp2_with fail
          refine (First_any _ _ _ hcur').mono ?_
          rintro e w3 hpost
          rcases hpost with ⟨hf, _, _, _, _⟩ | ⟨_, rfl, hb3⟩
          · exact absurd hf (short_noFrame more)
          · have hbel3 := hbel2.next hb3
            unfold packBad
            go_wp2_with (at_make; refine wpList_make_bytes rfl _ _ 23 rfl elem_u8 zero_u8 65536 rfl rfl (by omega) ?_; intro a5 c5 w5 ho5 hb5)
            refine (Seal_ok _ _ g 0 _ ho5.bs hg (by omega) (by rw [List.length_replicate]; omega)).mono ?_
            rintro e w6 ⟨v6, rfl, ho6, hb6⟩
            obtain ⟨a6, n6, c6, rfl, Hn6, ho6⟩ := ho6.named
            have hbel6 := (hbel3.next hb5).next hb6
            go_wp2_with (at_make; refine wpList_make_bytes rfl _ _ 23 rfl elem_u8 zero_u8 65537 rfl rfl (by omega) ?_; intro a7 c7 w7 ho7 hb7)
            refine (Seal_bad _ _ g 0 _ ho7.bs 5 (by decide) (by rw [List.length_replicate]; simp only [mayE]; rw [if_neg (by omega), if_pos (by omega)])).mono ?_
            rintro e w8 ⟨rfl, rfl⟩
            go_wp2_with fail
            refine (wakes_any _).mono ?_
            rintro e w9 ⟨rfl, hb9⟩
            go_wp2_with fail
            go_ret
            exact ⟨rfl, (hbel6.next hb7).next hb9⟩

end Cam
