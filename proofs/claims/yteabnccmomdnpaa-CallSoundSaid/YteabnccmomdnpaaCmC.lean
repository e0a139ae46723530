import Derived.Test.YteabnccmomdnpaaCmB
import Derived.Test.YteabnccmomdnpaaClN
import Derived.Test.YteabnccmomdnpaaClQ
/- CallOthers: the walk. -/
namespace Cam
open Go Go.RowKit Go.Proofs

/-- two places that tell the same call, or none -/
def SameAt (l m : List CT) (i j : Int) : Prop := (i = -1 ∧ j = -1) ∨ (∃ p q, ∃ hp : p < l.length, ∃ hq : q < m.length, i = (p : Int) ∧ j = (q : Int) ∧ l[p].amt = m[q].amt ∧ l[p].tick = m[q].tick)
theorem ix_look {l : List CT} (hg : Goods l) {who cur i : Int} (h : IsIx who cur l i) (hc : 0 ≤ cur ∧ cur < 3) :
    (i = -1 ∧ look (3 * who + cur) l = none) ∨ (∃ p, ∃ hp : p < l.length, i = (p : Int) ∧ look (3 * who + cur) l = some l[p]) := by
  rcases h with ⟨h1, h2⟩ | ⟨k, hk, h1, h2, h3⟩
  · refine Or.inl ⟨h1, look_none.2 fun c hc2 hk => ?_⟩
    obtain ⟨q, hq, rfl⟩ := List.mem_iff_getElem.1 hc2
    have hin := okB_in (hg.1 _ hc2)
    unfold InC at hin
    unfold kOf at hk
    exact h2 q hq ⟨by omega, by omega⟩
  · refine Or.inr ⟨k, hk, h1, ?_⟩
    have := look_of hg.2 (List.getElem_mem hk)
    rw [show kOf l[k] = 3 * who + cur by unfold kOf; rw [h2.1, h2.2]] at this
    exact this
theorem ix_out {l : List CT} (hg : Goods l) {who cur i : Int} (h : IsIx who cur l i) (hc : ¬ (0 ≤ cur ∧ cur < 3)) : i = -1 := by
  rcases h with ⟨h1, _⟩ | ⟨k, hk, _, h2, _⟩
  · exact h1
  · have hin := okB_in (hg.1 _ (List.getElem_mem hk))
    unfold InC at hin
    omega
theorem same_put {l : List CT} (hg : Goods l) {dw dc amt at0 who cur i j : Int} (ha : argB dw dc amt at0 = true) (hne : ¬ (who = dw ∧ cur = dc)) (hi : IsIx who cur l i) (hj : IsIx who cur (putL l dw dc amt at0) j) :
    SameAt l (putL l dw dc amt at0) i j := by
  have hg2 := put_goods hg ha
  have hp := argB_parts ha
  by_cases hc : 0 ≤ cur ∧ cur < 3
  · have hk := look_put_other l dw dc amt at0 (3 * who + cur) (by omega)
    rcases ix_look hg hi hc with ⟨h1, h2⟩ | ⟨p, hp, h1, h2⟩
    · rcases ix_look hg2 hj hc with ⟨h3, h4⟩ | ⟨q, hq, h3, h4⟩
      · exact Or.inl ⟨h1, h3⟩
      · rw [hk, h2] at h4
        cases h4
    · rcases ix_look hg2 hj hc with ⟨h3, h4⟩ | ⟨q, hq, h3, h4⟩
      · rw [hk, h2] at h4
        cases h4
      · rw [hk, h2] at h4
        simp only [Option.some.injEq] at h4
        exact Or.inr ⟨p, q, hp, hq, h1, h3, by rw [h4], by rw [h4]⟩
  · exact Or.inl ⟨ix_out hg hi hc, ix_out hg2 hj hc⟩
theorem isOkB_goods {l : List CT} (h : isOkB l = true) : Goods l := by
  unfold isOkB at h
  rw [decide_eq_true_eq] at h
  exact (chkE_goods l).1 h
/-- what Ask and Meet leave alone -/
def Leaves (l m : List CT) (E who cur i : Int) : Prop := E = 0 → ∀ j, IsIx who cur m j → SameAt l m i j
theorem ask_leaves {l : List CT} {dw dc amt at0 who cur i : Int} (hne : ¬ (who = dw ∧ cur = dc)) (hi : IsIx who cur l i) : Leaves l (askL l dw dc amt at0) (wrongE l dw dc amt at0) who cur i := by
  intro hE j hj
  obtain ⟨hg, ha⟩ := wrongE_zero hE
  unfold askL at hj ⊢
  rw [if_pos hE] at hj ⊢
  exact same_put hg ha hne hi hj
theorem meet_leaves {l : List CT} {dw dc amt who cur i : Int} (hne : ¬ (who = dw ∧ cur = dc)) (hi : IsIx who cur l i) : Leaves l (meetL l dw dc amt) (wrongE l dw dc amt 0) who cur i := by
  intro hE j hj
  obtain ⟨hg, ha⟩ := wrongE_zero hE
  unfold meetL at hj ⊢
  rw [if_pos hE] at hj ⊢
  exact same_put hg (argB_max ha (ofL_bd hg dw dc).2) hne hi hj
theorem midL_len (o : Option CT) (who cur amt at0 : Int) : (midL o who cur amt at0).length ≤ 1 := by
  unfold midL
  split
  · simp
  · split
    · simp
    · split <;> simp
theorem putL_len (l : List CT) (who cur amt at0 : Int) : (putL l who cur amt at0).length ≤ l.length + l.length + 1 := by
  unfold putL
  have h1 := List.length_filter_le (fun c : CT => decide (kOf c < 3 * who + cur)) l
  have h2 := List.length_filter_le (fun c : CT => decide (3 * who + cur < kOf c)) l
  have h3 := midL_len (look (3 * who + cur) l) who cur amt at0
  simp only [List.length_append]
  omega
theorem askL_len (l : List CT) (who cur amt at0 : Int) : (askL l who cur amt at0).length ≤ l.length + l.length + 1 := by
  unfold askL
  split
  · exact putL_len _ _ _ _ _
  · simp
theorem meetL_len (l : List CT) (who cur amt : Int) : (meetL l who cur amt).length ≤ l.length + l.length + 1 := by
  unfold meetL
  split
  · exact putL_len _ _ _ _ _
  · simp

set_option maxRecDepth 100000 in
set_option maxHeartbeats 6400000 in
theorem CallOthers_walk (W : World) (v0 : Value) (l : List CT) (dw dc da at0 who cur : Int) (h : Cs W v0 l) :
    Calls Try.prog 5 #[v0, .agg #[.int .i64 dw, .int .i64 dc, .int .i64 da], .int .i64 at0, .int .i64 who, .int .i64 cur] W fun e w' => e = .returned (.bool true) ∧ Below W.heap.size W w' := by
  obtain ⟨av, cap, rfl, hcap, hm⟩ := h.shape
  have hbW := (Below.refl W.heap.size W).alloc (Nat.le_refl _) (.cells #[.int .i64 dw, .int .i64 dc, .int .i64 da] 26)
  have hn0 := heap_alloc_new W (.cells #[.int .i64 dw, .int .i64 dc, .int .i64 da] 26)
  have hcl : ∀ j u, #[Value.int .i64 dw, .int .i64 dc, .int .i64 da][j]? = some u → (W.alloc (.cells #[.int .i64 dw, .int .i64 dc, .int .i64 da] 26)).cell? ⟨W.heap.size, j, none⟩ = some u := by
    intro j u hu
    unfold World.cell?
    rw [hn0]
    exact hu
  have c0 : _ = some (Value.int .i64 dw) := hcl 0 _ rfl
  have c1 : _ = some (Value.int .i64 dc) := hcl 1 _ rfl
  have c2 : _ = some (Value.int .i64 da) := hcl 2 _ rfl
  have HBW := Lib.hid hbW
  have hlW := h.mono hbW
  clear hcl hn0 hbW h
  by_cases hlong : 300 < l.length
  · have hlong' : (300 : Int) < (l.length : Int) := by omega
    clear hlW
    go_enter Try.func5, Try.ntmps5
    go_wp2_with fail
    go_ret
    exact ⟨rfl, HBW.out⟩
  · obtain ⟨n, hn⟩ : ∃ n, n = l.length := ⟨_, rfl⟩
    have HN := Lib.hid hn
    have HL := Lib.hid hlW
    have rc := rCalls_any _ _ l hlW (by omega)
    rw [← hn] at hcap hlong HL rc ⊢
    clear hn hlW
    cases hok : isOkB l with
    | false =>
      rw [hok] at rc
      clear hok
      go_enter Try.func5, Try.ntmps5
      go_wp2_with fail
      refine rc.mono ?_
      clear rc
      rintro e w1 ⟨rfl, hb⟩
      have HB := Lib.hid (HBW.out.trans (hb.mono HBW.out.size))
      clear hb c0 c1 c2
      go_wp2_with fail
      go_ret
      exact ⟨rfl, HB.out⟩
    | true =>
      have HG := Lib.hid (isOkB_goods hok)
      rw [hok] at rc
      clear hok
      by_cases hsame : who = dw ∧ cur = dc
      · obtain ⟨rfl, rfl⟩ := hsame
        go_enter Try.func5, Try.ntmps5
        go_wp2_with fail
        refine rc.mono ?_
        clear rc
        rintro e w1 ⟨rfl, hb⟩
        have HB := Lib.hid (HBW.out.trans (hb.mono HBW.out.size))
        have d0 := (Below.cell hb (World.block_lt_of_cell? _ _ c0)).trans c0
        have d1 := (Below.cell hb (World.block_lt_of_cell? _ _ c1)).trans c1
        clear hb c0 c1 c2
        go_wp2_with fail
        go_ret
        exact ⟨rfl, HB.out⟩
      · have HS := Lib.hid hsame
        have hor : ((who == dw) = false) ∨ ((who == dw) = true ∧ (cur == dc) = false) := by
          by_cases e : who = dw
          · exact Or.inr ⟨by simpa using e, by simp only [beq_eq_false_iff_ne]; exact fun e2 => hsame ⟨e, e2⟩⟩
          · exact Or.inl (by simpa using e)
        have HOR := Lib.hid hor
        clear hsame hor
        go_enter Try.func5, Try.ntmps5
        go_wp2_with fail
        refine rc.mono ?_
        clear rc
        rintro e w1 ⟨rfl, hb⟩
        have HB := Lib.hid (HBW.out.trans (hb.mono HBW.out.size))
        have d0 := (Below.cell hb (World.block_lt_of_cell? _ _ c0)).trans c0
        have d1 := (Below.cell hb (World.block_lt_of_cell? _ _ c1)).trans c1
        have d2 := (Below.cell hb (World.block_lt_of_cell? _ _ c2)).trans c2
        have HL1 := Lib.hid (HL.out.mono hb)
        clear hb c0 c1 c2 HL
        rcases HOR.out with hq | ⟨hq, hq2⟩
        all_goals
          have ask := Ask_any w1 _ l dw dc da at0 HL1.out (by have := HN.out; omega)
          go_wp2_with fail
          refine ask.mono ?_
          clear ask
          rintro e w2 ⟨ax, nx, cx, rfl, hox, hb2⟩
          have f0 := (Below.cell hb2 (World.block_lt_of_cell? _ _ d0)).trans d0
          have f1 := (Below.cell hb2 (World.block_lt_of_cell? _ _ d1)).trans d1
          have f2 := (Below.cell hb2 (World.block_lt_of_cell? _ _ d2)).trans d2
          have HL2 := Lib.hid (HL1.out.mono hb2)
          have HX := Lib.hid hox
          have HB2 := Lib.hid (HB.out.trans (hb2.mono HB.out.size))
          have me := Meet_any w2 _ l dw dc da HL2.out (by have := HN.out; omega)
          clear hox hb2 d0 d1 d2
          obtain ⟨ea, hea⟩ : ∃ x, x = wrongE l dw dc da at0 := ⟨_, rfl⟩
          rw [← hea]
          have HEA := Lib.hid hea
          clear hea
          go_wp2_with fail
          refine me.mono ?_
          clear me
          rintro e w3 ⟨ay, ny, cy, rfl, hoy, hb3⟩
          have HL3 := Lib.hid (HL2.out.mono hb3)
          have HX3 := Lib.hid (HX.out.below hb3)
          have HY3 := Lib.hid hoy
          have HB3 := Lib.hid (HB2.out.trans (hb3.mono HB2.out.size))
          have cl := Called_any w3 who cur _ l HL3.out (by have := HN.out; omega)
          clear hoy hb3 f0 f1 f2 hq
          obtain ⟨eb, heb⟩ : ∃ x, x = wrongE l dw dc da 0 := ⟨_, rfl⟩
          rw [← heb]
          have HEB := Lib.hid heb
          clear heb
          go_wp2_with fail
          refine cl.mono ?_
          clear cl
          rintro e w4 ⟨r, rfl, hix, rfl⟩
          have HLA : Hid (Leaves l (askL l dw dc da at0) ea who cur r) := by rw [HEA.out]; exact ask_leaves HS.out hix
          have HLB : Hid (Leaves l (meetL l dw dc da) eb who cur r) := by rw [HEB.out]; exact meet_leaves HS.out hix
          clear hix
          go_wp2_with fail
          go_loopw [16] (fun v16 wr => ∃ k : Nat, k ≤ 2 ∧ v16 = .int .i64 k ∧ Below w3.heap.size w3 wr) (fun i _ => 2 - (intOf i).toNat)
          case atStart => exact ⟨0, by omega, rfl, Below.refl _ _⟩
          case round =>
            obtain ⟨k, hk, rfl, hbel⟩ := hrel
            by_cases hlt : k < 2
            · have hk01 : k = 0 ∨ k = 1 := by omega
              rcases hk01 with hk01 | hk01
              · subst hk01
                have hX := HX3.out.below hbel
                have cl := Called_any wr who cur _ (askL l dw dc da at0) hX.rs (by have := askL_len l dw dc da at0; have := HN.out; omega)
                have hnx := own_len hX
                by_cases hE : ea = 0
                · subst hE
                  have HXR := Lib.hid hX.rs
                  have HNX := Lib.hid hnx
                  have HBEL := Lib.hid hbel
                  have HL4 := Lib.hid (HL3.out.mono hbel)
                  clear hX hnx hbel
                  go_wp2_with fail
                  refine cl.mono ?_
                  clear cl
                  rintro e w5 ⟨j, rfl, hjx, rfl⟩
                  have HS5 := Lib.hid (HLA.out rfl j hjx)
                  clear hjx HLA HLB
                  rcases HS5.out with ⟨rfl, rfl⟩ | ⟨p, q, hp, hq, rfl, rfl, ha, ht⟩
                  · go_wp2_with fail
                    go_quiet (fail)
                    go_wp2_with fail
                    exact ⟨⟨0 + 1, by omega, by push_cast; rfl, below_drewN' HBEL.out _⟩, by simp [intOf]⟩
                  · obtain ⟨bl, off, rfl, _, hc⟩ := Cs.at4 HL4.out (by omega)
                    obtain ⟨bx, ox, rfl, _, hd⟩ := Cs.at4 HXR.out (by omega)
                    obtain ⟨z0, z1, g2, g3⟩ := hc p hp
                    obtain ⟨z2, z3, h2, h3⟩ := hd q hq
                    rw [← ha] at h2
                    rw [← ht] at h3
                    have hpn : p < n := by have := HN.out; omega
                    have hqn : q < nx := by have := HNX.out; omega
                    clear hc hd ha ht HS5 z0 z1 z2 z3
                    generalize l[p].amt = xa at g2 h2
                    generalize l[p].tick = xt at g3 h3
                    clear hp hq
                    go_wp2_with fail
                    go_quiet (fail)
                    go_wp2_with fail
                    exact ⟨⟨0 + 1, by omega, by push_cast; rfl, below_drewN' HBEL.out _⟩, by simp [intOf]⟩
                · have hE' : (ea != 0) = true := by rw [bne_iff_ne]; exact hE
                  clear hE cl hX hnx
                  go_wp2_with fail
                  exact ⟨⟨0 + 1, by omega, by push_cast; rfl, hbel⟩, by simp [intOf]⟩
              · subst hk01
                have hX := HY3.out.below hbel
                have cl := Called_any wr who cur _ (meetL l dw dc da) hX.rs (by have := meetL_len l dw dc da; have := HN.out; omega)
                have hnx := own_len hX
                by_cases hE : eb = 0
                · subst hE
                  have HXR := Lib.hid hX.rs
                  have HNX := Lib.hid hnx
                  have HBEL := Lib.hid hbel
                  have HL4 := Lib.hid (HL3.out.mono hbel)
                  clear hX hnx hbel
                  go_wp2_with fail
                  refine cl.mono ?_
                  clear cl
                  rintro e w5 ⟨j, rfl, hjx, rfl⟩
                  have HS5 := Lib.hid (HLB.out rfl j hjx)
                  clear hjx HLA HLB
                  rcases HS5.out with ⟨rfl, rfl⟩ | ⟨p, q, hp, hq, rfl, rfl, ha, ht⟩
                  · go_wp2_with fail
                    go_quiet (fail)
                    go_wp2_with fail
                    exact ⟨⟨1 + 1, by omega, by push_cast; rfl, below_drewN' HBEL.out _⟩, by simp [intOf]⟩
                  · obtain ⟨bl, off, rfl, _, hc⟩ := Cs.at4 HL4.out (by omega)
                    obtain ⟨bx, ox, rfl, _, hd⟩ := Cs.at4 HXR.out (by omega)
                    obtain ⟨z0, z1, g2, g3⟩ := hc p hp
                    obtain ⟨z2, z3, h2, h3⟩ := hd q hq
                    rw [← ha] at h2
                    rw [← ht] at h3
                    have hpn : p < n := by have := HN.out; omega
                    have hqn : q < ny := by have := HNX.out; omega
                    clear hc hd ha ht HS5 z0 z1 z2 z3
                    generalize l[p].amt = xa at g2 h2
                    generalize l[p].tick = xt at g3 h3
                    clear hp hq
                    go_wp2_with fail
                    go_quiet (fail)
                    go_wp2_with fail
                    exact ⟨⟨1 + 1, by omega, by push_cast; rfl, below_drewN' HBEL.out _⟩, by simp [intOf]⟩
                · have hE' : (eb != 0) = true := by rw [bne_iff_ne]; exact hE
                  clear hE cl hX hnx
                  go_wp2_with fail
                  exact ⟨⟨1 + 1, by omega, by push_cast; rfl, hbel⟩, by simp [intOf]⟩
            · obtain rfl : k = 2 := by omega
              have HB4 := Lib.hid (HB3.out.trans (hbel.mono HB3.out.size))
              have wk := fun w => wakes18_any w
              clear hbel
              go_wp2_with fail
              refine (wk _).mono ?_
              rintro e w2 ⟨rfl, hb2⟩
              go_wp2_with fail
              go_ret
              exact ⟨rfl, HB4.out.trans (hb2.mono HB4.out.size)⟩
end Cam
