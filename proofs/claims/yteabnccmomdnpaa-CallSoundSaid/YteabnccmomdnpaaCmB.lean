import Derived.Test.YteabnccmomdnpaaCmA
/- CallMeets: the walk. -/
namespace Cam
open Go Go.RowKit Go.Proofs

def oneL (who cur left at0 : Int) : List CT := if left = 0 then [] else [⟨who, cur, left, at0⟩]
theorem oneL_zero (who cur at0 : Int) : oneL who cur 0 at0 = [] := rfl
theorem oneL_pos {who cur left at0 : Int} (h : ¬ left = 0) : oneL who cur left at0 = [⟨who, cur, left, at0⟩] := if_neg h
theorem argB_parts {who cur amt at0 : Int} (h : argB who cur amt at0 = true) : (((1 ≤ who ∧ who ≤ 16) ∧ 0 ≤ cur ∧ cur < 3) ∧ 0 ≤ amt ∧ amt ≤ 4611686018427387904) ∧ 0 ≤ at0 ∧ at0 ≤ 1099511627776 := by
  unfold argB rightC rightB at h
  simp only [Bool.and_eq_true, decide_eq_true_eq] at h
  omega
theorem argB_mk {who cur amt at0 : Int} (h : (((1 ≤ who ∧ who ≤ 16) ∧ 0 ≤ cur ∧ cur < 3) ∧ 0 ≤ amt ∧ amt ≤ 4611686018427387904) ∧ 0 ≤ at0 ∧ at0 ≤ 1099511627776) : argB who cur amt at0 = true := by
  unfold argB rightC rightB
  simp only [Bool.and_eq_true, decide_eq_true_eq]
  omega
theorem oneL_goods {who cur left at0 : Int} (h : argB who cur left at0 = true) : Goods (oneL who cur left at0) := by
  have := argB_parts h
  unfold oneL
  split
  · exact ⟨fun c hc => (by cases hc), List.Pairwise.nil⟩
  · refine ⟨fun c hc => ?_, List.pairwise_singleton _ _⟩
    simp at hc
    subst hc
    unfold okB rightC rightB
    simp only [Bool.and_eq_true, decide_eq_true_eq]
    omega
theorem ofL_one (who cur left at0 : Int) : ofL who cur (oneL who cur left at0) = left := by
  unfold oneL
  split
  · next h => rw [h]; rfl
  · unfold ofL
    rw [if_pos ⟨rfl, rfl⟩]
theorem putL_one (who cur left at0 amt a1 : Int) (h : left = 0 → amt = 0 ∨ a1 = at0) (hp : 0 ≤ amt) : putL (oneL who cur left at0) who cur amt a1 = oneL who cur amt at0 := by
  unfold putL oneL
  split
  · next h0 =>
    unfold midL look
    simp only [List.filter_nil, List.find?_nil, List.nil_append, List.append_nil]
    by_cases ha : amt = 0
    · simp [ha]
    · rcases h h0 with h1 | h1
      · exact absurd h1 ha
      · simp [ha, h1, show 0 < amt by omega]
  · unfold midL look kOf
    simp
theorem wrongE_one {who cur left at0 p a1 : Int} (h : Goods (oneL who cur left at0)) : wrongE (oneL who cur left at0) who cur p a1 = if argB who cur p a1 = true then 0 else 3 := by
  unfold wrongE
  rw [if_pos ((chkE_goods _).2 h)]
theorem meet_one {who cur left at0 p : Int} (h : argB who cur left at0 = true) (hp : argB who cur p 0 = true) : meetL (oneL who cur left at0) who cur p = oneL who cur (max (left - p) 0) at0 := by
  unfold meetL
  rw [wrongE_one (oneL_goods h), if_pos hp, if_pos rfl, ofL_one]
  have := argB_parts hp
  exact putL_one who cur left at0 _ 0 (fun e => Or.inl (by omega)) (by omega)
theorem meet_bad {who cur left at0 p : Int} (h : argB who cur left at0 = true) (hp : argB who cur p 0 = false) : meetL (oneL who cur left at0) who cur p = [] ∧ wrongE (oneL who cur left at0) who cur p 0 = 3 := by
  have e : wrongE (oneL who cur left at0) who cur p 0 = 3 := by
    rw [wrongE_one (oneL_goods h), hp]
    rfl
  refine ⟨?_, e⟩
  unfold meetL
  rw [e]
  rfl
theorem ask_nil {who cur amt at0 : Int} (h : argB who cur amt at0 = true) : wrongE [] who cur amt at0 = 0 ∧ askL [] who cur amt at0 = oneL who cur amt at0 := by
  have e : wrongE [] who cur amt at0 = 0 := by
    have := wrongE_one (who := who) (cur := cur) (left := 0) (at0 := at0) (p := amt) (a1 := at0) ⟨fun c hc => (by cases hc), List.Pairwise.nil⟩
    rw [oneL_zero, if_pos h] at this
    exact this
  refine ⟨e, ?_⟩
  unfold askL
  rw [if_pos e]
  have := argB_parts h
  exact putL_one who cur 0 at0 amt at0 (fun _ => Or.inr rfl) (by omega)
theorem ask_nil_bad {who cur amt at0 : Int} (h : argB who cur amt at0 = false) : wrongE [] who cur amt at0 = 3 ∧ askL [] who cur amt at0 = [] := by
  have e : wrongE [] who cur amt at0 = 3 := by
    have := wrongE_one (who := who) (cur := cur) (left := 0) (at0 := at0) (p := amt) (a1 := at0) ⟨fun c hc => (by cases hc), List.Pairwise.nil⟩
    rw [oneL_zero, h] at this
    exact this
  refine ⟨e, ?_⟩
  unfold askL
  rw [e]
  rfl
theorem own_len {w : World} {base : Nat} {a : Option Addr} {n c : Nat} {L : List CT} (h : OwnC w base (.slice a n c) L) : n = L.length := by
  obtain ⟨_, _, e9, _, _⟩ := h.rs.shape
  simp only [Value.slice.injEq] at e9
  exact e9.2.1

set_option maxRecDepth 100000 in
set_option maxHeartbeats 3200000 in
theorem CallMeets_walk (W : World) (who cur amt at0 : Int) (v2 : Value) (l2 : List Int) (h2 : Is W v2 l2) :
    Calls Try.prog 4 #[.agg #[.int .i64 who, .int .i64 cur, .int .i64 amt], .int .i64 at0, v2] W fun e w' => e = .returned (.bool true) ∧ Below W.heap.size W w' := by
  obtain ⟨a2, c2, rfl, hcap2, hm2⟩ := h2.shape
  have hbW := (Below.refl W.heap.size W).alloc (Nat.le_refl _) (.cells #[.int .i64 who, .int .i64 cur, .int .i64 amt] 26)
  have hn0 := heap_alloc_new W (.cells #[.int .i64 who, .int .i64 cur, .int .i64 amt] 26)
  have hcl : ∀ j u, #[Value.int .i64 who, .int .i64 cur, .int .i64 amt][j]? = some u → (W.alloc (.cells #[.int .i64 who, .int .i64 cur, .int .i64 amt] 26)).cell? ⟨W.heap.size, j, none⟩ = some u := by
    intro j u hu
    unfold World.cell?
    rw [hn0]
    exact hu
  have c0 : _ = some (Value.int .i64 who) := hcl 0 _ rfl
  have c1 : _ = some (Value.int .i64 cur) := hcl 1 _ rfl
  have c2' : _ = some (Value.int .i64 amt) := hcl 2 _ rfl
  have HBW := Lib.hid hbW
  have hl2 : Is (W.alloc (.cells #[.int .i64 who, .int .i64 cur, .int .i64 amt] 26)) (.slice a2 l2.length c2) l2 := h2.mono hbW
  clear hcl hn0 hbW h2
  by_cases hlong : 300 < l2.length
  · have hlong' : (300 : Int) < (l2.length : Int) := by omega
    go_enter Try.func4, Try.ntmps4
    go_wp2_with fail
    go_ret
    exact ⟨rfl, HBW.out⟩
  · obtain ⟨n2, hn2⟩ : ∃ n, n = l2.length := ⟨_, rfl⟩
    have HN2 := Lib.hid hn2
    rw [← hn2] at hcap2 hl2 hlong ⊢
    clear hn2
    have ask := fun w => Ask_any w (.slice none 0 0) [] who cur amt at0 (Rs.nil CT.len w) (by simp)
    cases hargb : argB who cur amt at0 with
    | false =>
      have hx := ask_nil_bad hargb
      rw [hx.1, hx.2] at ask
      clear hx hargb
      have HL2 := Lib.hid hl2
      clear hl2
      go_enter Try.func4, Try.ntmps4
      go_wp2_with fail
      refine (ask _).mono ?_
      rintro e w1 ⟨a, n, c, rfl, ho, hb⟩
      obtain rfl : n = 0 := own_len ho
      have HB := Lib.hid (HBW.out.trans (hb.mono HBW.out.size))
      have wk := fun w => wakes18_any w
      clear ho hb c0 c1 c2' ask
      go_wp2_with fail
      refine (wk _).mono ?_
      rintro e w2 ⟨rfl, hb2⟩
      go_wp2_with fail
      go_ret
      exact ⟨rfl, HB.out.trans (hb2.mono HB.out.size)⟩
    | true =>
      have hx := ask_nil hargb
      have HARG := Lib.hid hargb
      have hpar := argB_parts hargb
      obtain ⟨⟨⟨hw1, hc1⟩, ha0, ha1⟩, ht0, ht1⟩ := hpar
      rw [hx.1, hx.2] at ask
      clear hx hargb
      have HL2 := Lib.hid hl2
      have HHP := Lib.hid (⟨hw1, hc1, ht0, ht1⟩ : _ ∧ _ ∧ _ ∧ _)
      clear hl2 hw1 hc1 ht0 ht1
      go_enter Try.func4, Try.ntmps4
      go_wp2_with fail
      refine (ask _).mono ?_
      clear ask
      rintro e w1 ⟨a, n, c, rfl, ho, hb⟩
      have hl1 := HL2.out.mono hb
      have d0 := (Below.cell hb (World.block_lt_of_cell? _ _ c0)).trans c0
      have d1 := (Below.cell hb (World.block_lt_of_cell? _ _ c1)).trans c1
      have d2 := (Below.cell hb (World.block_lt_of_cell? _ _ c2')).trans c2'
      have HB := Lib.hid (HBW.out.trans (hb.mono HBW.out.size))
      have HO := Lib.hid (ho.base HBW.out.size)
      clear ho hb c0 c1 c2' HL2
      go_wp2_with fail
      have HL1 := Lib.hid hl1
      have D0 := Lib.hid d0
      have D1 := Lib.hid d1
      clear hl1 d0 d1 d2 HBW
      go_loopw [7, 9, 10] (fun v7 v9 v10 wr => ∃ (k : Nat) (left : Int) (a7 : Option Addr) (n7 c7 : Nat), k ≤ n2 ∧ 0 ≤ left ∧ left ≤ 4611686018427387904 ∧ v10 = .int .i64 k ∧ v9 = .int .i64 left ∧ v7 = .slice a7 n7 c7 ∧ OwnC wr W.heap.size (.slice a7 n7 c7) (oneL who cur left at0) ∧ Below w1.heap.size w1 wr) (fun _ _ i _ => n2 - (intOf i).toNat)
      case atStart => exact ⟨0, amt, a, n, c, Nat.zero_le _, ha0, ha1, rfl, rfl, rfl, HO.out, Below.refl _ _⟩
      case round =>
        obtain ⟨k, left, a7, n7, c7, hk, hle0, hle1, rfl, rfl, rfl, ho, hbel⟩ := hrel
        by_cases hlt : k < n2
        · have hkl : k < l2.length := by have := HN2.out; omega
          obtain ⟨bl, off, rfl, _, hc⟩ := Is.at (HL1.out.mono hbel) (by omega)
          have hck := hc k hkl
          obtain ⟨p, hp⟩ : ∃ p, p = l2[k] := ⟨_, rfl⟩
          rw [← hp] at hck
          have e0 := (Below.cell hbel (World.block_lt_of_cell? _ _ D0.out)).trans D0.out
          have e1 := (Below.cell hbel (World.block_lt_of_cell? _ _ D1.out)).trans D1.out
          have HO1 := Lib.hid ho
          have HARG1 : Hid (argB who cur left at0 = true) := argB_mk ⟨⟨⟨HHP.out.1, HHP.out.2.1⟩, hle0, hle1⟩, HHP.out.2.2⟩
          have HBE := Lib.hid hbel
          clear hc hp ho
          go_wp2_with fail
          go_region_held3 (fun w' => w'.cell? ⟨W.heap.size, 0, none⟩ = some (.int .i64 who) ∧ w'.cell? ⟨W.heap.size, 1, none⟩ = some (.int .i64 cur) ∧ w'.cell? ⟨bl, off + k, none⟩ = some (.int .i64 p)) (first | go_keep | exact keepK1 (by assumption) (by assumption)) (fail)
          have hbA : Below wr.heap.size wr (wr.alloc (.cells #[.int .i64 who, .int .i64 cur, .int .i64 p] 26)).drew := ((Below.refl _ _).alloc (Nat.le_refl _) _).drew
          have hoA := HO1.out.below hbA
          have me := Meet_any (wr.alloc (.cells #[.int .i64 who, .int .i64 cur, .int .i64 p] 26)).drew _ _ who cur p hoA.rs (by unfold oneL; split <;> simp)
          have f0 := (Below.cell hbA (World.block_lt_of_cell? _ _ e0)).trans e0
          have f1 := (Below.cell hbA (World.block_lt_of_cell? _ _ e1)).trans e1
          have fk := (Below.cell hbA (World.block_lt_of_cell? _ _ hck)).trans hck
          have HBA := Lib.hid (HBE.out.next hbA)
          have HOA := Lib.hid hoA
          have F0 := Lib.hid f0
          have F1 := Lib.hid f1
          have FK := Lib.hid fk
          clear hbA e0 e1 hck hoA f0 f1 fk hbel
          cases hap : argB who cur p 0 with
          | false =>
            have hmb := meet_bad HARG1.out hap
            rw [hmb.1, hmb.2] at me
            have hpb : p < 0 ∨ 4611686018427387904 < p := by
              by_cases hx : 0 ≤ p ∧ p ≤ 4611686018427387904
              · have := argB_mk (who := who) (cur := cur) (amt := p) (at0 := 0) ⟨⟨⟨HHP.out.1, HHP.out.2.1⟩, hx⟩, by omega, by omega⟩
                rw [hap] at this
                cases this
              · omega
            have HPB := Lib.hid hpb
            clear hap hmb hpb
            go_wp2_with fail
            refine me.mono ?_
            clear me
            rintro e w3 ⟨a, n, c, rfl, ho3, hb3⟩
            obtain rfl : n = 0 := own_len ho3
            have fk3 := (Below.cell hb3 (World.block_lt_of_cell? _ _ FK.out)).trans FK.out
            have HB3 := Lib.hid (HBA.out.next hb3)
            have HO3 := Lib.hid (HOA.out.below hb3)
            clear ho3 hb3
            rcases HPB.out with hpb | hpb
            · go_wp2_with fail
              exact ⟨⟨k + 1, left, a7, n7, c7, by omega, hle0, hle1, by push_cast; rfl, rfl, rfl, HO3.out, HB3.out⟩, by simp [intOf]; omega⟩
            · have hpn : decide (p < 0) = false := decide_eq_false (by omega)
              go_wp2_with fail
              exact ⟨⟨k + 1, left, a7, n7, c7, by omega, hle0, hle1, by push_cast; rfl, rfl, rfl, HO3.out, HB3.out⟩, by simp [intOf]; omega⟩
          | true =>
            have hmb := meet_one HARG1.out hap
            have hwz : wrongE (oneL who cur left at0) who cur p 0 = 0 := by rw [wrongE_one (oneL_goods HARG1.out), hap]; rfl
            rw [hmb, hwz] at me
            have hpp := (argB_parts hap).1.2
            have hpn : decide (p < 0) = false := decide_eq_false (by omega)
            have hpm : decide (4611686018427387904 < p) = false := decide_eq_false (by omega)
            clear hap hmb hwz
            by_cases hz : left - p ≤ 0
            · rw [show max (left - p) 0 = 0 by omega, oneL_zero] at me
              go_wp2_with fail
              refine me.mono ?_
              clear me
              rintro e w3 ⟨a, n, c, rfl, ho3, hb3⟩
              obtain rfl : n = 0 := own_len ho3
              have fk3 := (Below.cell hb3 (World.block_lt_of_cell? _ _ FK.out)).trans FK.out
              have f03 := (Below.cell hb3 (World.block_lt_of_cell? _ _ F0.out)).trans F0.out
              have f13 := (Below.cell hb3 (World.block_lt_of_cell? _ _ F1.out)).trans F1.out
              have HB3 := Lib.hid (HBA.out.next hb3)
              have of := fun w h => Of_any w who cur (.slice a 0 c) [] h (by simp)
              have HO3 := Lib.hid (ho3.base (Nat.le_trans HB.out.size (HBA.out.size)))
              rw [show ofL who cur [] = 0 from rfl] at of
              clear ho3 hb3
              by_cases hneg : left - p < 0
              · go_wp2_with fail
                refine (of _ HO3.out.rs).mono ?_
                clear of
                rintro e w4 ⟨rfl, hb4⟩
                have HB4 := Lib.hid (HB3.out.next hb4)
                have HO4 := Lib.hid (HO3.out.below hb4)
                clear hb4
                go_wp2_with fail
                exact ⟨⟨k + 1, 0, a, 0, c, by omega, Int.le_refl _, by omega, by push_cast; rfl, rfl, rfl, HO4.out, HB4.out⟩, by simp [intOf]; omega⟩
              · obtain rfl : left = p := by omega
                go_wp2_with fail
                refine (of _ HO3.out.rs).mono ?_
                clear of
                rintro e w4 ⟨rfl, hb4⟩
                have HB4 := Lib.hid (HB3.out.next hb4)
                have HO4 := Lib.hid (HO3.out.below hb4)
                clear hb4
                go_wp2_with fail
                exact ⟨⟨k + 1, 0, a, 0, c, by omega, Int.le_refl _, by omega, by push_cast; rfl, rfl, rfl, HO4.out, HB4.out⟩, by simp [intOf]; omega⟩
            · rw [show max (left - p) 0 = left - p by omega] at me
              obtain ⟨nw, hnw⟩ : ∃ nw, nw = left - p := ⟨_, rfl⟩
              rw [← hnw] at me
              have hnw0 : 0 < nw ∧ nw ≤ 4611686018427387904 := by omega
              obtain rfl : left = nw + p := by omega
              have hnn : nw + p - p = nw := by omega
              have of := fun w v h => Of_any w who cur v (oneL who cur nw at0) h (by unfold oneL; split <;> simp)
              rw [ofL_one] at of
              clear hnw hz
              go_wp2_with fail
              refine me.mono ?_
              clear me
              rintro e w3 ⟨a, n, c, rfl, ho3, hb3⟩
              obtain rfl : n = 1 := (own_len ho3).trans (by rw [oneL_pos (by omega)]; rfl)
              have fk3 := (Below.cell hb3 (World.block_lt_of_cell? _ _ FK.out)).trans FK.out
              have f03 := (Below.cell hb3 (World.block_lt_of_cell? _ _ F0.out)).trans F0.out
              have f13 := (Below.cell hb3 (World.block_lt_of_cell? _ _ F1.out)).trans F1.out
              have HB3 := Lib.hid (HBA.out.next hb3)
              have HO3 := Lib.hid (ho3.base (Nat.le_trans HB.out.size (HBA.out.size)))
              have hnq : (nw == 0) = false := by rw [beq_eq_false_iff_ne]; omega
              have hnr : ¬ nw < 0 := by omega
              clear ho3 hb3
              go_wp2_with fail
              refine (of _ _ HO3.out.rs).mono ?_
              clear of
              rintro e w4 ⟨rfl, hb4⟩
              have HB4 := Lib.hid (HB3.out.next hb4)
              have HO4 := Lib.hid (HO3.out.below hb4)
              clear hb4
              go_wp2_with fail
              exact ⟨⟨k + 1, nw, a, 1, c, by omega, by omega, hnw0.2, by push_cast; rfl, rfl, rfl, HO4.out, HB4.out⟩, by simp [intOf]; omega⟩
        · have HB2 := Lib.hid (HB.out.trans (hbel.mono HB.out.size))
          have wk := fun w => wakes18_any w
          clear ho hbel
          go_wp2_with fail
          refine (wk _).mono ?_
          rintro e w2 ⟨rfl, hb2⟩
          go_wp2_with fail
          go_ret
          exact ⟨rfl, HB2.out.trans (hb2.mono HB2.out.size)⟩
end Cam
