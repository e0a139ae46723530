import Derived.Test.YtdenijpdkfnjeaaDkLa
/- cambistlaw06: DiskLasts. -/
namespace Cam
open Go Go.RowKit Go.Proofs

theorem sets_length (s : List (List UInt8)) (l : List (Nat × List UInt8)) : (sets s l).length = s.length := by
  induction l generalizing s with
  | nil => rfl
  | cons x l ih =>
    show (sets (s.set x.1 x.2) l).length = _
    rw [ih, List.length_set]
theorem crashTo_get {op : List (Nat × List UInt8)} (picks : List Int) (s : List (List UInt8)) {j : Nat} (h : ∀ x ∈ op, x.1 ≠ j) : ∀ k, (crashTo op picks s k)[j]? = s[j]?
  | 0 => rfl
  | k + 1 => by
    rw [crashTo]
    cases hx : op[k]? with
    | none => exact crashTo_get picks s h k
    | some x =>
      simp only
      rw [List.getElem?_set_ne (h x (List.mem_of_getElem? hx))]
      exact crashTo_get picks s h k
theorem as_u64d (x : Int) : ∃ u : Nat, IntKind.u64.wrap x = (u : Int) ∧ u < 18446744073709551616 := by
  refine ⟨(IntKind.u64.wrap x).toNat, ?_, ?_⟩
  · rw [IntKind.wrap_u64]
    omega
  · rw [IntKind.wrap_u64]
    omega

/-- a slice of marks of the call's own -/
def OwnM (w : World) (base g n : Nat) (tl : List Bool) : Prop := w.ownsRow base 4 1 (.slice (some ⟨g, 0, none⟩) n n) n (tl.map Value.bool)
theorem OwnM.kept {S : Nat → Prop} {w w' : World} {base g n : Nat} {tl : List Bool} (h : OwnM w base g n tl) (hk : Kept S w w') (hg : ¬ S g) : OwnM w' base g n tl := by
  refine ⟨h.1, ?_⟩
  rcases h.2 with ⟨e, _⟩ | ⟨g', cap, cur, e, hb, hh, r⟩
  · cases e
  · have e' := e
    simp only [Value.slice.injEq, Option.some.injEq, Addr.mk.injEq] at e
    obtain ⟨⟨rfl, _⟩, _, rfl⟩ := e
    exact Or.inr ⟨g, n, cur, e', hb, (hk.block g (Array.getElem?_eq_some_iff.1 hh).1 hg).trans hh, r⟩
theorem OwnM.lt {w : World} {base g n : Nat} {tl : List Bool} (h : OwnM w base g n tl) : base ≤ g ∧ g < w.heap.size := World.ownsRow.lt h g rfl
theorem OwnM.cell {w : World} {base g n : Nat} {tl : List Bool} (h : OwnM w base g n tl) {j : Nat} (hj : j < n) : tl.length = n ∧ w.cell? ⟨g, j, none⟩ = some (.bool (tl.getD j false)) ∧ w.frozen? ⟨g, j, none⟩ = false := by
  have hl : tl.length = n := by have := h.1; simpa using this
  refine ⟨hl, ?_, World.ownsRow.frozenAt h j⟩
  rw [World.ownsRow.cellAt h j (by omega), List.getElem?_map, List.getElem?_eq_getElem (by omega)]
  simp [List.getD, List.getElem?_eq_getElem (show j < tl.length by omega)]
theorem OwnM.set {w : World} {base g n : Nat} {tl : List Bool} (h : OwnM w base g n tl) (j : Nat) (b : Bool) : OwnM (w.setCell ⟨g, j, none⟩ (.bool b)) base g n (tl.set j b) := by
  have := (World.ownsRow.stored h j (.bool b)).1
  unfold OwnM
  rw [List.map_set]
  exact this
theorem run_make_marks : (Try.prog.info? 4).map (fun i => (i.zero, i.size, i.bytes)) = some (some (.bool false), 1, 1) := by kernel_rfl
theorem make_marks {w : World} {ops : Array Oper} {rest : List Oper} {o : Oper} {a : Act} {Q : Exit → Act → World → Prop} (hg : o.guard = none) (l c : Operand) (hop : o.op = Op.makeSlice 32 l c) (n : Nat) (hl : a.eval l = .int .i64 n) (hc : a.eval c = .int .i64 n) (hn : n ≤ 65536)
    (h : ∀ w', OwnM w' w.heap.size w.heap.size n (List.replicate n false) → Below w.heap.size w w' → wpList Try.prog ops Q rest (a.put o.dst (.slice (some ⟨w.heap.size, 0, none⟩) n n)) w') : wpList Try.prog ops Q (o :: rest) a w := by
  obtain ⟨i, h1, h2, h3, h4⟩ := info_parts run_make_marks
  refine wpList_make_full w hg l c 32 hop w.heap.size 4 i (.bool false) 1 Try.underlying32 h1 h2 h3 .i64 .i64 n n n hl hc rfl rfl (by rw [h4]; omega) (by unfold maxLen; omega) (Nat.le_refl _) (fun w' r1 r2 => ?_)
  refine h w' ?_ ((Below.refl _ _).grown r2 (Nat.le_refl _) (fun k hk => by cases hk))
  unfold OwnM
  rw [show (Value.bool false).cells = #[.bool false] from rfl, toList_madeCells_one, Nat.mul_one] at r1
  rw [List.map_replicate]
  exact r1

theorem drew3 {W : World} {x : Nat} {p q : Addr} {cs : List Value} {u v : Value} (h : W.rangeAt x 0 cs ∧ W.cell? p = some u ∧ W.cell? q = some v) : W.drew.rangeAt x 0 cs ∧ W.drew.cell? p = some u ∧ W.drew.cell? q = some v := h
theorem keepB3 {W w1 : World} {x : Nat} {p q : Addr} {cs : List Value} {u v : Value} (hb : Below W.heap.size W w1) (h : W.rangeAt x 0 cs ∧ W.cell? p = some u ∧ W.cell? q = some v) : w1.rangeAt x 0 cs ∧ w1.cell? p = some u ∧ w1.cell? q = some v :=
  ⟨fun j y hy => (hb.cell (World.block_lt_of_cell? W _ (h.1 j y hy))).trans (h.1 j y hy), (hb.cell (World.block_lt_of_cell? W _ h.2.1)).trans h.2.1, (hb.cell (World.block_lt_of_cell? W _ h.2.2)).trans h.2.2⟩

set_option maxRecDepth 100000 in
set_option maxHeartbeats 3200000 in
theorem DiskLasts_walk (w : World) (v0 v1 v2 : Value) (l : List UInt8) (ats picks : List Int) (h0 : Bs w v0 l) (h1 : Is w v1 ats) (h2 : Is w v2 picks) :
    Calls Try.prog 3 #[v0, v1, v2] w fun e w' => e = .returned (.bool true) ∧ Below w.heap.size w w' := by
  obtain ⟨al, cl, rfl, hcl, hml⟩ := h0.shape
  obtain ⟨aa, ca, rfl, hca, hma⟩ := h1.shape
  obtain ⟨ap, cp, rfl, hcp, hmp⟩ := h2.shape
  by_cases c0 : 300 < l.length
  · have hi0 : (300 : Int) < (l.length : Int) := by omega
    go_enter Try.func3, Try.ntmps3
    go_wp2_with fail
    go_ret
    exact ⟨rfl, Below.refl _ _⟩
  have hi0 : decide ((300 : Int) < (l.length : Int)) = false := by simp; omega
  by_cases c1 : 300 < ats.length
  · have hi1 : (300 : Int) < (ats.length : Int) := by omega
    go_enter Try.func3, Try.ntmps3
    go_wp2_with fail
    go_ret
    exact ⟨rfl, Below.refl _ _⟩
  have hi1 : decide ((300 : Int) < (ats.length : Int)) = false := by simp; omega
  by_cases c2 : 300 < picks.length
  · have hi2 : (300 : Int) < (picks.length : Int) := by omega
    go_enter Try.func3, Try.ntmps3
    go_wp2_with fail
    go_ret
    exact ⟨rfl, Below.refl _ _⟩
  have hi2 : decide ((300 : Int) < (picks.length : Int)) = false := by simp; omega
  obtain ⟨n, hn⟩ : ∃ n, n = l.length := ⟨_, rfl⟩
  have HNL := Lib.hid hn
  rw [← hn] at hi0 c0 ⊢
  by_cases c3 : n = 0
  · subst c3
    clear hn h0 h1 h2
    go_enter Try.func3, Try.ntmps3
    go_wp2_with fail
    go_ret
    exact ⟨rfl, Below.refl _ _⟩
  have hi3 : ((n : Int) == 0) = false := by simp; omega
  have hnn : 1 ≤ n ∧ n ≤ 300 := by omega
  have hal : ats.length ≤ 300 := by omega
  rw [← hn] at h0
  clear c0 c1 c2 c3 hn
  go_enter Try.func3, Try.ntmps3
  go_wp2_with fail
  refine (New_ok w n (by omega) (by omega)).mono ?_
  rintro e w1 ⟨g, gs, gn, rfl, hd1, f1, f2, f3, hb1⟩
  have hfar : Far w.heap.size g gs gn (.slice none 0 0) := ⟨f3, f1, f2, fun k hk => by cases hk⟩
  clear f1 f2 f3
  go_wp2_with fail
  go_loopw [9] (fun i wr => ∃ (k : Nat) (D : DK) (vo : Value), k ≤ n ∧ i = .int .i64 k ∧ DM wr g gs gn vo n D ∧ Far w.heap.size g gs gn vo ∧ Hid (D.off = false ∧ D.arm = 0) ∧ D.op.length = k ∧ Hid (∀ j, j < k → (sets D.syn D.op)[j]? = some (fill64 (l.getD j 0))) ∧ Below w.heap.size w wr) (fun i _ => n - (intOf i).toNat)
  case atStart => exact ⟨0, DK.new n, _, Nat.zero_le _, rfl, hd1, hfar, ⟨rfl, rfl⟩, rfl, (fun j hj => by omega), hb1⟩
  case round =>
    obtain ⟨k, D, vo, hk, rfl, hd, hfar, HON, hopl, HS, hbel⟩ := hrel
    by_cases hlt : k < n
    · have hkl : k < l.length := by have := HNL.out; omega
      obtain ⟨bk, offk, rfl, _, hc⟩ := (h0.mono hbel).at (by omega)
      have hck := hc k hkl
      obtain ⟨c, hcx⟩ : ∃ c, c = l[k] := ⟨_, rfl⟩
      rw [← hcx] at hck
      have HC0 : Hid (l.getD k 0 = c) := by show _ = _; rw [hcx]; simp [List.getD, List.getElem?_eq_getElem hkl]
      clear hc hcx
      have Hfar := Lib.hid hfar
      go_wp2_with fail
      refine (Block_fill _ c).mono ?_
      rintro e w3 ⟨rfl, hb3⟩
      have hd3 := hd.below hb3
      have hbb3 := hbel.next hb3
      clear hd hck hbel hb3
      have hsy := hd3.ok.syn.1
      go_wp2_with fail
      refine (Write_on w3 g gs gn _ n D hd3 k (fill64 c) HON.out.1 HON.out.2 hlt (fill64_length c) (by omega)).mono ?_
      rintro e w4 ⟨rfl, vo4, hd4, hk4, ho4⟩
      have hbb4 := hbb3.trans (Hfar.out.below hk4 hbb3.size)
      have hfar4 := Hfar.out.next ho4 hbb3.size
      have hopl4 : (dPut D k (fill64 c)).op.length = k + 1 := by show (D.op ++ [_]).length = _; rw [List.length_append, hopl]; rfl
      have HS4 : Hid (∀ j, j < k + 1 → (sets (dPut D k (fill64 c)).syn (dPut D k (fill64 c)).op)[j]? = some (fill64 (l.getD j 0))) := by
        show ∀ j, _
        intro j hj
        show (sets D.syn (D.op ++ [(k, fill64 c)]))[j]? = _
        rw [sets_snoc]
        by_cases hjk : j = k
        · subst hjk
          rw [List.getElem?_set_self (by rw [sets_length, hsy]; exact hlt), HC0.out]
        · rw [List.getElem?_set_ne (by show k ≠ j; omega)]
          exact HS.out j (by omega)
      clear hd3 hbb3 hk4 ho4 hsy
      go_wp2_with fail
      exact ⟨⟨k + 1, dPut D k (fill64 c), vo4, by omega, by push_cast; rfl, hd4, hfar4, ⟨HON.out.1, HON.out.2⟩, hopl4, HS4, hbb4⟩, by simp [intOf]; omega⟩
    · obtain rfl : k = n := by omega
      have Hfar := Lib.hid hfar
      clear hfar hd1 hb1
      go_wp2_with fail
      refine (Sync_on wr g gs gn _ _ D hd HON.out.1 HON.out.2).mono ?_
      rintro e w3 ⟨rfl, vo3, hd3, hk3, ho3⟩
      have hbb3 := hbel.trans (Hfar.out.below hk3 hbel.size)
      have hfar3 := Hfar.out.next ho3 hbel.size
      obtain ⟨D3, hD3⟩ : ∃ D3, D3 = dSynced D := ⟨_, rfl⟩
      rw [← hD3] at hd3
      have HON3 : Hid (D3.off = false ∧ D3.arm = 0) := by show _ ∧ _; rw [hD3]; exact ⟨HON.out.1, HON.out.2⟩
      have HS3 : Hid (∀ j, j < k → D3.syn[j]? = some (fill64 (l.getD j 0))) := by show ∀ j, _; rw [hD3]; exact HS.out
      have hop3 : D3.op = [] := by rw [hD3]; rfl
      have HOP3 := Lib.hid hop3
      clear hd hbel hk3 ho3 Hfar hD3 hop3
      go_wp2_with (first | (at_make; refine make_marks rfl (.tmp 61) (.tmp 61) rfl k rfl rfl (by omega) ?_; intro w4 hm4 hb4) | fail)
      have hd4 := hd3.below hb4
      have hbb4 := hbb3.next hb4
      have hap4 : ∀ j, DS g gs gn vo3 j → j ≠ w3.heap.size := by
        have x1 := hd3.hd.lt
        obtain ⟨x2, x3, x4⟩ := hd3.lt
        intro j hj e
        subst e
        rcases hj with e | e | e | e
        · omega
        · omega
        · omega
        · have := (hd3.row _ e).2
          omega
      have hs3 := hbb3.size
      clear hd3 hbb3 hb4
      go_loopw [11] (fun i wr => ∃ (i' : Nat) (D : DK) (vo : Value) (tl : List Bool), i' ≤ ats.length ∧ i = .int .i64 i' ∧ DM wr g gs gn vo k D ∧ OwnM wr w3.heap.size w3.heap.size k tl ∧ Hid (∀ j, DS g gs gn vo j → j ≠ w3.heap.size) ∧ Far w.heap.size g gs gn vo ∧ Hid (D.off = false ∧ D.arm = 0) ∧ D.op.length = i' ∧ Hid (∀ j, j < k → D.syn[j]? = some (fill64 (l.getD j 0))) ∧ Hid (∀ x ∈ D.op, tl.getD x.1 false = true) ∧ Below w.heap.size w wr) (fun i _ => ats.length - (intOf i).toNat)
      case atStart => exact ⟨0, D3, vo3, _, Nat.zero_le _, rfl, hd4, hm4, hap4, hfar3, HON3.out, by rw [HOP3.out]; rfl, HS3.out, (by rw [HOP3.out]; intro x hx; cases hx), hbb4⟩
      case round =>
        obtain ⟨i, D, vo, tl, hi, rfl, hd, hm, HAP, hfar, HON, hopl, HS, HT, hbel⟩ := hrel
        clear hd4 hm4 hap4 hbb4 hfar3 HON3 HS3 HOP3
        have hopl5_ : D.op.length = i := hopl
        by_cases hlt : i < ats.length
        · obtain ⟨ba, offa, rfl, _, hca⟩ := (h1.mono hbel).at (by omega)
          have hai := hca i hlt
          obtain ⟨x, hx⟩ : ∃ x, x = ats[i] := ⟨_, rfl⟩
          rw [← hx] at hai
          clear hca hx
          obtain ⟨u, hu, hu64⟩ := as_u64d x
          obtain ⟨r, hr, hrn⟩ : ∃ r : Nat, ((u : Int) % (k : Int)) = (r : Int) ∧ r < k := ⟨u % k, by simp, Nat.mod_lt _ (by omega)⟩
          obtain ⟨htl, hmc, hmf⟩ := hm.cell hrn
          have hbelW := hbel.setCell (p := ⟨w3.heap.size, r, none⟩) hs3 (.bool true)
          have hkl : r < l.length := by have := HNL.out; omega
          obtain ⟨bk, offk, rfl, _, hc⟩ := (h0.mono hbelW).at (by omega)
          have hck := hc r hkl
          obtain ⟨c, hcx⟩ : ∃ c, c = l[r] := ⟨_, rfl⟩
          rw [← hcx] at hck
          clear hc hcx
          go_wp2_with fail
          obtain ⟨c', he⟩ : ∃ c' : UInt8, ((c.toNat : Int) + (i : Int) + 1) % 256 = (c'.toNat : Int) := by
            refine ⟨UInt8.ofNat ((c.toNat + i + 1) % 256), ?_⟩
            rw [UInt8.toNat_ofNat']
            omega
          have bl := Block_fill (wr.setCell ⟨w3.heap.size, r, none⟩ (.bool true)) c'
          rw [← he] at bl
          have hmW := hm.set r true
          have hkW : Kept (fun j => j = w3.heap.size) wr (wr.setCell ⟨w3.heap.size, r, none⟩ (.bool true)) := (Kept.refl (fun j => j = w3.heap.size) wr).setCell _ _ rfl
          have hdW := hd.kept hkW (fun j hj e => HAP.out j hj e)
          refine bl.mono ?_
          rintro e w5 ⟨rfl, hb5⟩
          have hd5 := hdW.below hb5
          have hm5 := hmW.kept (Kept.of_below hb5) (fun e => e)
          have hbb5 := hbelW.next hb5
          have Hfar := Lib.hid hfar
          have hopl5 := hopl5_
          clear bl hd hm hmW hkW hdW hbel hbelW hb5 hck hmc hmf hai hfar
          go_wp2_with fail
          refine (Write_on w5 g gs gn _ k D hd5 r (fill64 c') HON.out.1 HON.out.2 hrn (fill64_length c') (by omega)).mono ?_
          rintro e w6 ⟨rfl, vo6, hd6, hk6, ho6⟩
          have hbb6 := hbb5.trans (Hfar.out.below hk6 hbb5.size)
          have hfar6 := Hfar.out.next ho6 hbb5.size
          have hm6 := hm5.kept hk6 (fun e => HAP.out _ e rfl)
          have hwl := hm5.lt.2
          have HAP6 : Hid (∀ j, DS g gs gn vo6 j → j ≠ w3.heap.size) := by
            show ∀ j, _
            intro j hj
            rcases hj with e | e | e | e
            · exact HAP.out j (.inl e)
            · exact HAP.out j (.inr (.inl e))
            · exact HAP.out j (.inr (.inr (.inl e)))
            · rcases ho6 j e with e' | e'
              · exact HAP.out j (.inr (.inr (.inr e')))
              · omega
          have hopl6 : (dPut D r (fill64 c')).op.length = i + 1 := by show (D.op ++ [_]).length = _; rw [List.length_append, hopl5]; rfl
          have HT6 : Hid (∀ x ∈ (dPut D r (fill64 c')).op, (tl.set r true).getD x.1 false = true) := by
            show ∀ x ∈ D.op ++ [(r, fill64 c')], _
            intro x hx
            have hset : (tl.set r true).getD r false = true := by simp [List.getD, List.getElem?_set_self (show r < tl.length by omega)]
            rcases List.mem_append.1 hx with h | h
            · have h3 := HT.out x h
              by_cases hxr : x.1 = r
              · rw [hxr]
                exact hset
              · simp only [List.getD] at h3 ⊢
                rw [List.getElem?_set_ne (fun e => hxr e.symm)]
                exact h3
            · simp at h
              subst h
              exact hset
          clear hd5 hm5 hbb5 hk6 ho6
          go_wp2_with fail
          exact ⟨⟨i + 1, dPut D r (fill64 c'), vo6, tl.set r true, by omega, by push_cast; rfl, hd6, hm6, HAP6, hfar6, ⟨HON.out.1, HON.out.2⟩, hopl6, HS, HT6, hbb6⟩, by simp [intOf]; omega⟩
        · have Hfar := Lib.hid hfar
          have cr := Crash_any wr g gs gn _ k D hd _ picks (fun w' hk => h2.mono (hbel.trans (Hfar.out.below hk hbel.size)))
          clear hfar
          go_wp2_with fail
          refine cr.mono ?_
          rintro e w5 ⟨rfl, vo5, hd5, hk5, ho5⟩
          have hbb5 := hbel.trans (Hfar.out.below hk5 hbel.size)
          have Hfar5 := Lib.hid (Hfar.out.next ho5 hbel.size)
          have hm5 := hm.kept hk5 (fun e => HAP.out _ e rfl)
          have hwl := hm.lt.2
          have HAP5 : Hid (∀ j, DS g gs gn vo5 j → j ≠ w3.heap.size) := by
            show ∀ j, _
            intro j hj
            rcases hj with e | e | e | e
            · exact HAP.out j (.inl e)
            · exact HAP.out j (.inr (.inl e))
            · exact HAP.out j (.inr (.inr (.inl e)))
            · rcases ho5 j e with e' | e'
              · exact HAP.out j (.inr (.inr (.inr e')))
              · omega
          clear cr hd hm hbel hk5 ho5 Hfar
          have st := Start_any w5 g gs gn _ k _ hd5
          obtain ⟨D6, hD6⟩ : ∃ D6, D6 = dStart (dCrash D picks) := ⟨_, rfl⟩
          rw [← hD6] at st
          have HOFF : Hid (D6.off = false) := by show _ = _; rw [hD6]; exact again_offA D picks
          have HNOW : Hid (∀ j, j < k → tl.getD j false = false → D6.now[j]? = some (fill64 (l.getD j 0))) := by
            show ∀ j, _
            intro j hj ht
            have e1 : D6.now = crashTo D.op picks D.syn D.op.length := by rw [hD6]; simp [dStart, dCrash]
            rw [e1, crashTo_get picks D.syn (fun x hx e => by have := HT.out x hx; rw [e, ht] at this; cases this)]
            exact HS.out j hj
          clear hD6
          go_wp2_with fail
          refine st.mono ?_
          rintro e w6 ⟨rfl, vo6, hd6, hk6, ho6⟩
          have hbb6 := hbb5.trans (Hfar5.out.below hk6 hbb5.size)
          have hm6 := hm5.kept hk6 (fun e => HAP5.out _ e rfl)
          clear st hd5 hm5 hbb5 hk6 ho6 Hfar5 HAP5
          go_wp2_with fail
          go_loopw [13] (fun i wr => ∃ j : Nat, j ≤ k ∧ i = .int .i64 j ∧ DM wr g gs gn vo6 k D6 ∧ OwnM wr w3.heap.size w3.heap.size k tl ∧ Below w.heap.size w wr) (fun i _ => k - (intOf i).toNat)
          case atStart => exact ⟨0, Nat.zero_le _, rfl, hd6, hm6, hbb6⟩
          case round =>
            obtain ⟨j, hj, rfl, hd, hm, hbel⟩ := hrel
            clear hd6 hm6 hbb6
            by_cases hlt : j < k
            · have hja : j < D6.now.length := by rw [hd.ok.now.1]; exact hlt
              obtain ⟨b, hbe⟩ : ∃ b, D6.now[j]? = some b := ⟨_, List.getElem?_eq_getElem hja⟩
              have hbl : b.length = 64 := hd.ok.now.2 b (List.mem_of_getElem? hbe)
              have rd := Read_on wr g gs gn _ k D6 hd HOFF.out j hlt b hbe
              have HBE := Lib.hid hbe
              have HBL := Lib.hid hbl
              clear hbe hbl hja
              go_wp2_with fail
              refine rd.mono ?_
              rintro e w7 ⟨rfl, hb7⟩
              obtain ⟨q1, q2, q3⟩ := box_world w7 b HBL.out
              have hb7' : Below wr.heap.size wr ((w7.alloc (.cells (bvs zero64).toArray 29)).setCells w7.heap.size 0 (bvs b)) := hb7.trans (q1.mono hb7.size)
              have hd8 := hd.below hb7'
              have hm8 := hm.kept (Kept.of_below hb7') (fun e => e)
              have hbb8 := (hbel.next hb7).next q1
              have Q3 := Lib.hid q3
              have Hsz := Lib.hid (size64_of HBL.out)
              have hkl : j < l.length := by have := HNL.out; omega
              obtain ⟨bk, offk, rfl, _, hc⟩ := (h0.mono hbb8).at (by omega)
              have hck := hc j hkl
              obtain ⟨c, hcx⟩ : ∃ c, c = l[j] := ⟨_, rfl⟩
              rw [← hcx] at hck
              have HC0 : Hid (l.getD j 0 = c) := by show _ = _; rw [hcx]; simp [List.getD, List.getElem?_eq_getElem hkl]
              obtain ⟨htl, hmc, hmf⟩ := hm8.cell hlt
              have R1 := q2.bytes
              have HD8 := Lib.hid hd8
              have HM8 := Lib.hid hm8
              have HB8 := Lib.hid hbb8
              clear rd hd hm hbel hb7 hb7' q1 q2 q3 hd8 hm8 hbb8 hc hcx hmf
              obtain ⟨t, ht⟩ : ∃ t, t = tl.getD j false := ⟨_, rfl⟩
              rw [← ht] at hmc
              have HTT := Lib.hid ht
              clear ht
              cases t with
              | true =>
                clear R1 hck
                go_wp2_with (first
                  | (refine wpList_store_mid rfl 29 (.tmp 14) (.tmp 110) rfl w7.heap.size 0 (bvs b).toArray rfl rfl Q3.out (by simpa using Hsz.out) (all_oneCell_toArray (bs_oneCell _)) ?_; change wpList _ _ _ _ _ ((w7.alloc (.cells (bvs zero64).toArray 29)).setCells w7.heap.size 0 (bvs b)))
                  | fail)
                go_quiet (fail)
                go_wp2_with fail
                exact ⟨⟨j + 1, by omega, by push_cast; rfl, HD8.out.below ⟨rfl, rfl, rfl, Nat.le_refl _, fun _ _ => rfl⟩, HM8.out, below_drewN' HB8.out _⟩, by simp [intOf]; omega⟩
              | false =>
                have hbc := HNOW.out j hlt HTT.out.symm
                rw [HBE.out, HC0.out] at hbc
                have hbf := Option.some.inj hbc
                have bl : ∀ w, Calls Try.prog 11 #[.int .u8 (c.toNat : Int)] w fun e w' => e = .returned (.agg (bvs b).toArray) ∧ Below w.heap.size w w' := fun w => by
                  have := Block_fill w c
                  rw [← hbf] at this
                  exact this
                have heqb : ∀ w, (Op.equalIn 10000 29 (.agg (bvs b).toArray) (.agg (bvs b).toArray)).run Try.prog w = .ok true w := fun w => by
                  have := blocks_eq w b b (HBL.out) (HBL.out)
                  rw [decide_eq_true rfl] at this
                  exact this
                have hun := Try.underlying29
                have HSS : Hid (((w7.alloc (.cells (bvs zero64).toArray 29)).setCells w7.heap.size 0 (bvs b)).drew.rangeAt w7.heap.size 0 (bvs b) ∧ ((w7.alloc (.cells (bvs zero64).toArray 29)).setCells w7.heap.size 0 (bvs b)).drew.cell? ⟨w3.heap.size, j, none⟩ = some (.bool false) ∧ ((w7.alloc (.cells (bvs zero64).toArray 29)).setCells w7.heap.size 0 (bvs b)).drew.cell? ⟨bk, offk + j, none⟩ = some (.int .u8 (c.toNat : Int))) := drew3 ⟨R1, hmc, hck⟩
                clear hbc hbf R1 hmc hck
                go_wp2_with (first
                  | (refine wpList_store_mid rfl 29 (.tmp 14) (.tmp 110) rfl w7.heap.size 0 (bvs b).toArray rfl rfl Q3.out (by simpa using Hsz.out) (all_oneCell_toArray (bs_oneCell _)) ?_; change wpList _ _ _ _ _ ((w7.alloc (.cells (bvs zero64).toArray 29)).setCells w7.heap.size 0 (bvs b)))
                  | fail)
                have hsz := Hsz.out
                go_region_held3 (fun w' => w'.rangeAt w7.heap.size 0 (bvs b) ∧ w'.cell? ⟨w3.heap.size, j, none⟩ = some (.bool false) ∧ w'.cell? ⟨bk, offk + j, none⟩ = some (.int .u8 (c.toNat : Int))) (first | exact HSS.out | exact keepB3 (by assumption) (by assumption))
                  (first | (go_at_call 11; refine (bl _).mono ?_; rintro e w9 ⟨rfl, hb9⟩))
                have hb9' := hb9
                go_wp2_with fail
                exact ⟨⟨j + 1, by omega, by push_cast; rfl, (HD8.out.below (Below.refl _ _).drew).below hb9', HM8.out.kept (Kept.of_below ((Below.refl _ _).drew.trans hb9')) (fun e => e), HB8.out.drew.next hb9'⟩, by simp [intOf]; omega⟩
            · go_wp2_with fail
              refine (wakes_any _).mono ?_
              rintro e w7 ⟨rfl, hb7⟩
              go_wp2_with fail
              go_ret
              exact ⟨rfl, hbel.next hb7⟩

end Cam
