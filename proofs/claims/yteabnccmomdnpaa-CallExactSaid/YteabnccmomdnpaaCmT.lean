import Derived.Test.YteabnccmomdnpaaCmP
/- cambistref15.Ask, Meet. -/
namespace Cam
open Go Go.RowKit Go.Proofs

theorem isOkB_bad {l : List CT} (h : isOkB l = false) : chkE l = 14 := by
  unfold isOkB at h
  rw [decide_eq_false_iff_not] at h
  exact (chkE_cases l).resolve_left h
theorem isOkB_yes {l : List CT} (h : isOkB l = true) : chkE l = 0 := by
  unfold isOkB at h
  rwa [decide_eq_true_eq] at h
theorem w_state {l : List CT} (h : isOkB l = false) (who cur amt at0 : Int) : wrongE l who cur amt at0 = 14 ∧ askL l who cur amt at0 = [] ∧ (at0 = 0 → meetL l who cur amt = []) := by
  have e : wrongE l who cur amt at0 = 14 := by unfold wrongE; rw [isOkB_bad h]; rfl
  refine ⟨e, by unfold askL; rw [e]; rfl, fun h0 => ?_⟩
  subst h0
  unfold meetL
  rw [e]
  rfl
theorem w_arg {l : List CT} (h : isOkB l = true) {who cur amt at0 : Int} (ha : argB who cur amt at0 = false) : wrongE l who cur amt at0 = 3 ∧ askL l who cur amt at0 = [] ∧ (at0 = 0 → meetL l who cur amt = []) := by
  have e : wrongE l who cur amt at0 = 3 := by unfold wrongE; rw [isOkB_yes h, ha]; rfl
  refine ⟨e, by unfold askL; rw [e]; rfl, fun h0 => ?_⟩
  subst h0
  unfold meetL
  rw [e]
  rfl
theorem w_ok {l : List CT} (h : isOkB l = true) {who cur amt at0 : Int} (ha : argB who cur amt at0 = true) : wrongE l who cur amt at0 = 0 ∧ askL l who cur amt at0 = putL l who cur amt at0 ∧ (at0 = 0 → meetL l who cur amt = putL l who cur (max (ofL who cur l - amt) 0) 0) := by
  have e : wrongE l who cur amt at0 = 0 := by unfold wrongE; rw [isOkB_yes h, ha]; rfl
  refine ⟨e, by unfold askL; rw [e]; rfl, fun h0 => ?_⟩
  subst h0
  unfold meetL
  rw [e]
  rfl

set_option maxRecDepth 100000 in
set_option maxHeartbeats 1600000 in
theorem rAsk_any (w : World) (v : Value) (l : List CT) (who cur amt at0 : Int) (h : Cs w v l) (hl : l.length ≤ 100000) :
    Calls Try.prog 20 #[v, .agg #[.int .i64 who, .int .i64 cur, .int .i64 amt], .int .i64 at0] w (AskP w (wrongE l who cur amt at0) (askL l who cur amt at0)) := by
  have hbW := (Below.refl w.heap.size w).alloc (Nat.le_refl _) (.cells #[.int .i64 who, .int .i64 cur, .int .i64 amt] 26)
  have hn0 := heap_alloc_new w (.cells #[.int .i64 who, .int .i64 cur, .int .i64 amt] 26)
  have hcl : ∀ j u, #[Value.int .i64 who, .int .i64 cur, .int .i64 amt][j]? = some u → (w.alloc (.cells #[.int .i64 who, .int .i64 cur, .int .i64 amt] 26)).cell? ⟨w.heap.size, j, none⟩ = some u := by
    intro j u hu
    unfold World.cell?
    rw [hn0]
    exact hu
  have hC : ∀ W2, Below (w.alloc (.cells #[.int .i64 who, .int .i64 cur, .int .i64 amt] 26)).heap.size (w.alloc (.cells #[.int .i64 who, .int .i64 cur, .int .i64 amt] 26)) W2 → W2.cell? ⟨w.heap.size, 0, none⟩ = some (.int .i64 who) ∧ W2.cell? ⟨w.heap.size, 1, none⟩ = some (.int .i64 cur) ∧ W2.cell? ⟨w.heap.size, 2, none⟩ = some (.int .i64 amt) := fun W2 hb =>
    have c : ∀ {p : Addr} {x : Value}, (w.alloc (.cells #[.int .i64 who, .int .i64 cur, .int .i64 amt] 26)).cell? p = some x → W2.cell? p = some x := fun h => (hb.cell (World.block_lt_of_cell? _ _ h)).trans h
    ⟨c (hcl 0 _ rfl), c (hcl 1 _ rfl), c (hcl 2 _ rfl)⟩
  have hv := h.mono hbW
  obtain ⟨av, cap, rfl, hcap, hmm⟩ := h.shape
  have rc := rCalls_any _ _ l hv hl
  obtain ⟨n, hn⟩ : ∃ n, n = l.length := ⟨_, rfl⟩
  have HN := Lib.hid hn
  rw [← hn] at hv rc hcap ⊢
  have HV := Lib.hid hv
  have HBW := Lib.hid hbW
  have HC := Lib.hid hC
  have HL := Lib.hid hl
  have ca := fun w => callable_any w who cur amt
  have wi := fun w => within15_any w at0 0 1099511627776
  clear hn hn0 hcl hC hv hbW h hl
  cases hok : isOkB l with
  | false =>
    obtain ⟨e1, e2, _⟩ := w_state hok who cur amt at0
    rw [e1, e2]
    rw [hok] at rc
    clear e1 e2 hok
    go_enter Try.func20, Try.ntmps20
    go_wp2_with fail
    refine rc.mono ?_
    clear rc
    rintro e w1 ⟨rfl, hb⟩
    have HB := Lib.hid (HBW.out.trans (hb.mono HBW.out.size))
    clear hb
    go_wp2_with fail
    go_ret2
    exact ⟨none, 0, 0, rfl, OwnR.empty CT.len _ _ _, HB.out⟩
  | true =>
    rw [hok] at rc
    have harg := callB_arg (who := who) (cur := cur) (amt := amt) (at0 := at0)
    have HARG := Lib.hid harg
    obtain ⟨b1, hb1⟩ : ∃ b, b = callB who cur amt := ⟨_, rfl⟩
    obtain ⟨b2, hb2⟩ : ∃ b, b = decide ((0 : Int) ≤ at0 ∧ at0 ≤ 1099511627776) := ⟨_, rfl⟩
    rw [← hb1] at ca HARG
    rw [← hb2] at wi HARG
    have HOK := Lib.hid hok
    clear hb1 hb2 harg hok
    cases b1 with
    | false =>
      obtain ⟨e1, e2, _⟩ := w_arg HOK.out (HARG.out.symm.trans rfl)
      rw [e1, e2]
      clear e1 e2
      go_enter Try.func20, Try.ntmps20
      go_wp2_with fail
      refine rc.mono ?_
      clear rc
      rintro e w1 ⟨rfl, hb⟩
      obtain ⟨d0, d1, d2⟩ := HC.out _ hb
      have HB := Lib.hid (HBW.out.trans (hb.mono HBW.out.size))
      clear hb
      go_wp2_with fail
      refine (ca _).mono ?_
      rintro e w2 ⟨rfl, hb2⟩
      have HB2 := Lib.hid (HB.out.trans (hb2.mono HB.out.size))
      clear hb2 d0 d1 d2
      go_wp2_with fail
      go_ret2
      exact ⟨none, 0, 0, rfl, OwnR.empty CT.len _ _ _, HB2.out⟩
    | true =>
      cases b2 with
      | false =>
        obtain ⟨e1, e2, _⟩ := w_arg HOK.out (HARG.out.symm.trans rfl)
        rw [e1, e2]
        clear e1 e2
        go_enter Try.func20, Try.ntmps20
        go_wp2_with fail
        refine rc.mono ?_
        clear rc
        rintro e w1 ⟨rfl, hb⟩
        obtain ⟨d0, d1, d2⟩ := HC.out _ hb
        have HB := Lib.hid (HBW.out.trans (hb.mono HBW.out.size))
        clear hb
        go_wp2_with fail
        refine (ca _).mono ?_
        rintro e w2 ⟨rfl, hb2⟩
        have HB2 := Lib.hid (HB.out.trans (hb2.mono HB.out.size))
        clear hb2 d0 d1 d2
        go_wp2_with fail
        refine (wi _).mono ?_
        rintro e w3 ⟨rfl, rfl⟩
        go_wp2_with fail
        go_ret2
        exact ⟨none, 0, 0, rfl, OwnR.empty CT.len _ _ _, HB2.out⟩
      | true =>
        have HARG2 : Hid (argB who cur amt at0 = true) := HARG.out.symm.trans rfl
        obtain ⟨e1, e2, _⟩ := w_ok HOK.out HARG2.out
        rw [e1, e2]
        clear e1 e2
        go_enter Try.func20, Try.ntmps20
        go_wp2_with fail
        refine rc.mono ?_
        clear rc
        rintro e w1 ⟨rfl, hb⟩
        obtain ⟨d0, d1, d2⟩ := HC.out _ hb
        have HBB := Lib.hid hb
        clear hb
        go_wp2_with fail
        refine (ca _).mono ?_
        rintro e w2 ⟨rfl, hb2⟩
        have HB2 := Lib.hid (HBB.out.next hb2)
        clear hb2 d0 d1 d2 HBB
        go_wp2_with fail
        refine (wi _).mono ?_
        rintro e w3 ⟨rfl, rfl⟩
        obtain ⟨d0, d1, d2⟩ := HC.out _ HB2.out
        have cl := Called_any w2 who cur _ l (HV.out.mono HB2.out) HL.out
        go_wp2_with fail
        refine cl.mono ?_
        clear cl
        rintro e w5 ⟨r, rfl, hix, rfl⟩
        rcases ask_ref ((chkE_goods l).1 (isOkB_yes HOK.out)) HARG2.out hix with ⟨rfl, he⟩ | ⟨p, hp, rfl, he⟩
        · have st := set_any w2 _ l who cur amt at0 (HV.out.mono HB2.out) HL.out
          rw [he] at st
          clear he hix
          go_wp2_with fail
          refine st.mono ?_
          clear st
          rintro e w6 ⟨a, m, c, rfl, ho, hb6⟩
          have HO := Lib.hid ho
          clear ho
          go_wp2_with fail
          go_ret2
          have hs := HBW.out.trans (HB2.out.mono HBW.out.size)
          exact ⟨a, m, c, rfl, HO.out.base hs.size, hs.trans (hb6.mono hs.size)⟩
        · obtain ⟨bl, off, rfl, _, hcs⟩ := Cs.at4 (HV.out.mono HB2.out) (by omega)
          obtain ⟨m0, m1, m2, m3⟩ := hcs p hp
          have hpn : p < n := by have := HN.out; omega
          have st := set_any w2 _ l who cur amt l[p].tick (HV.out.mono HB2.out) HL.out
          rw [he] at st
          generalize l[p].tick = xt at st m3
          clear he hix hcs m0 m1 m2 hp
          go_wp2_with fail
          refine st.mono ?_
          clear st
          rintro e w6 ⟨a, m, c, rfl, ho, hb6⟩
          have HO := Lib.hid ho
          clear ho
          go_wp2_with fail
          go_ret2
          have hs := HBW.out.trans (HB2.out.mono HBW.out.size)
          exact ⟨a, m, c, rfl, HO.out.base hs.size, hs.trans (hb6.mono hs.size)⟩
set_option maxRecDepth 100000 in
set_option maxHeartbeats 1600000 in
theorem rMeet_any (w : World) (v : Value) (l : List CT) (who cur amt : Int) (h : Cs w v l) (hl : l.length ≤ 100000) :
    Calls Try.prog 22 #[v, .agg #[.int .i64 who, .int .i64 cur, .int .i64 amt]] w (AskP w (wrongE l who cur amt 0) (meetL l who cur amt)) := by
  have hbW := (Below.refl w.heap.size w).alloc (Nat.le_refl _) (.cells #[.int .i64 who, .int .i64 cur, .int .i64 amt] 26)
  have hn0 := heap_alloc_new w (.cells #[.int .i64 who, .int .i64 cur, .int .i64 amt] 26)
  have hcl : ∀ j u, #[Value.int .i64 who, .int .i64 cur, .int .i64 amt][j]? = some u → (w.alloc (.cells #[.int .i64 who, .int .i64 cur, .int .i64 amt] 26)).cell? ⟨w.heap.size, j, none⟩ = some u := by
    intro j u hu
    unfold World.cell?
    rw [hn0]
    exact hu
  have hC : ∀ W2, Below (w.alloc (.cells #[.int .i64 who, .int .i64 cur, .int .i64 amt] 26)).heap.size (w.alloc (.cells #[.int .i64 who, .int .i64 cur, .int .i64 amt] 26)) W2 → W2.cell? ⟨w.heap.size, 0, none⟩ = some (.int .i64 who) ∧ W2.cell? ⟨w.heap.size, 1, none⟩ = some (.int .i64 cur) ∧ W2.cell? ⟨w.heap.size, 2, none⟩ = some (.int .i64 amt) := fun W2 hb =>
    have c : ∀ {p : Addr} {x : Value}, (w.alloc (.cells #[.int .i64 who, .int .i64 cur, .int .i64 amt] 26)).cell? p = some x → W2.cell? p = some x := fun h => (hb.cell (World.block_lt_of_cell? _ _ h)).trans h
    ⟨c (hcl 0 _ rfl), c (hcl 1 _ rfl), c (hcl 2 _ rfl)⟩
  have hv := h.mono hbW
  obtain ⟨av, cap, rfl, hcap, hmm⟩ := h.shape
  have rc := rCalls_any _ _ l hv hl
  obtain ⟨n, hn⟩ : ∃ n, n = l.length := ⟨_, rfl⟩
  have HN := Lib.hid hn
  rw [← hn] at hv rc hcap ⊢
  have HV := Lib.hid hv
  have HBW := Lib.hid hbW
  have HC := Lib.hid hC
  have HL := Lib.hid hl
  have ca := fun w => callable_any w who cur amt
  clear hn hn0 hcl hC hv hbW h hl
  cases hok : isOkB l with
  | false =>
    obtain ⟨e1, _, e2⟩ := w_state hok who cur amt 0
    rw [e1, e2 rfl]
    rw [hok] at rc
    clear e1 e2 hok
    go_enter Try.func22, Try.ntmps22
    go_wp2_with fail
    refine rc.mono ?_
    clear rc
    rintro e w1 ⟨rfl, hb⟩
    have HB := Lib.hid (HBW.out.trans (hb.mono HBW.out.size))
    clear hb
    go_wp2_with fail
    go_ret2
    exact ⟨none, 0, 0, rfl, OwnR.empty CT.len _ _ _, HB.out⟩
  | true =>
    rw [hok] at rc
    have harg := callB_arg (who := who) (cur := cur) (amt := amt) (at0 := 0)
    rw [show decide ((0 : Int) ≤ 0 ∧ (0 : Int) ≤ 1099511627776) = true from by decide, Bool.and_true] at harg
    have HARG := Lib.hid harg
    obtain ⟨b1, hb1⟩ : ∃ b, b = callB who cur amt := ⟨_, rfl⟩
    rw [← hb1] at ca HARG
    have HOK := Lib.hid hok
    clear hb1 harg hok
    cases b1 with
    | false =>
      obtain ⟨e1, _, e2⟩ := w_arg HOK.out HARG.out.symm
      rw [e1, e2 rfl]
      clear e1 e2
      go_enter Try.func22, Try.ntmps22
      go_wp2_with fail
      refine rc.mono ?_
      clear rc
      rintro e w1 ⟨rfl, hb⟩
      obtain ⟨d0, d1, d2⟩ := HC.out _ hb
      have HB := Lib.hid (HBW.out.trans (hb.mono HBW.out.size))
      clear hb
      go_wp2_with fail
      refine (ca _).mono ?_
      rintro e w2 ⟨rfl, hb2⟩
      have HB2 := Lib.hid (HB.out.trans (hb2.mono HB.out.size))
      clear hb2 d0 d1 d2
      go_wp2_with fail
      go_ret2
      exact ⟨none, 0, 0, rfl, OwnR.empty CT.len _ _ _, HB2.out⟩
    | true =>
      have HARG2 : Hid (argB who cur amt 0 = true) := HARG.out.symm
      obtain ⟨e1, _, e2⟩ := w_ok HOK.out HARG2.out
      rw [e1, e2 rfl]
      have hpar := (argB_parts HARG2.out).1.2
      clear e1 e2
      go_enter Try.func22, Try.ntmps22
      go_wp2_with fail
      refine rc.mono ?_
      clear rc
      rintro e w1 ⟨rfl, hb⟩
      obtain ⟨d0, d1, d2⟩ := HC.out _ hb
      have HBB := Lib.hid hb
      clear hb
      go_wp2_with fail
      refine (ca _).mono ?_
      rintro e w2 ⟨rfl, hb2⟩
      have HB2 := Lib.hid (HBB.out.next hb2)
      clear hb2 d0 d1 d2 HBB
      obtain ⟨d0, d1, d2⟩ := HC.out _ HB2.out
      have cl := Called_any w2 who cur _ l (HV.out.mono HB2.out) HL.out
      go_wp2_with fail
      refine cl.mono ?_
      clear cl
      rintro e w5 ⟨r, rfl, hix, rfl⟩
      have hg := (chkE_goods l).1 (isOkB_yes HOK.out)
      rcases meet_ref hg HARG2.out hix with ⟨rfl, he⟩ | ⟨p, hp, rfl, hw, hc, hov, he⟩
      · have st := set_any w2 _ l who cur 0 0 (HV.out.mono HB2.out) HL.out
        rw [he] at st
        obtain ⟨z, hz⟩ : ∃ z, z = putL l who cur (max (ofL who cur l - amt) 0) 0 := ⟨_, rfl⟩
        rw [← hz] at st
        have HZ := Lib.hid hz
        clear he hix hg hz
        go_wp2_with fail
        refine st.mono ?_
        clear st
        rintro e w6 ⟨a, m, c, rfl, ho, hb6⟩
        have HO := Lib.hid ho
        clear ho
        go_wp2_with fail
        go_ret2
        have hs := HBW.out.trans (HB2.out.mono HBW.out.size)
        exact ⟨a, m, c, rfl, by rw [← HZ.out]; exact HO.out.base hs.size, hs.trans (hb6.mono hs.size)⟩
      · obtain ⟨bl, off, rfl, _, hcs⟩ := Cs.at4 (HV.out.mono HB2.out) (by omega)
        obtain ⟨m0, m1, m2, m3⟩ := hcs p hp
        have hpn : p < n := by have := HN.out; omega
        have hbd := ofL_bd hg who cur
        rw [hov] at hbd
        obtain ⟨z, hz⟩ : ∃ z, z = putL l who cur (max (ofL who cur l - amt) 0) 0 := ⟨_, rfl⟩
        rw [← hz] at he
        have HZ := Lib.hid hz
        rw [hw] at m0
        rw [hc] at m1
        obtain ⟨xa, hxa⟩ : ∃ x, x = l[p].amt := ⟨_, rfl⟩
        obtain ⟨xt, hxt⟩ : ∃ x, x = l[p].tick := ⟨_, rfl⟩
        rw [← hxa] at m2 hbd he
        rw [← hxt] at m3 he
        have st : ∀ w3 mx, mx = max (xa - amt) 0 → Below w2.heap.size w2 w3 → Calls Try.prog 37 #[.slice (some ⟨bl, off, none⟩) n cap, .agg #[.int .i64 who, .int .i64 cur, .int .i64 mx, .int .i64 xt]] w3 (InsPost w3 w3.heap.size z) := fun w3 mx hmx hb3 => by
          have := set_any w3 (.slice (some ⟨bl, off, none⟩) n cap) l who cur mx xt (HV.out.mono (HB2.out.next hb3)) HL.out
          rw [hmx, he] at this
          rw [hmx]
          exact this
        have HST := Lib.hid st
        clear he hix hcs hp hz hg hw hc hov hxa hxt st
        have e2 : (w2.alloc (.cells #[.int .i64 who, .int .i64 cur, .int .i64 xa, .int .i64 xt] 28)).cell? ⟨w.heap.size, 2, none⟩ = some (.int .i64 amt) := (Below.cell ((Below.refl _ _).alloc (Nat.le_refl _) _) (World.block_lt_of_cell? _ _ d2)).trans d2
        by_cases hneg : xa - amt < 0
        · skip
          have hbx : Below w2.heap.size w2 (w2.alloc (.cells #[.int .i64 who, .int .i64 cur, .int .i64 0, .int .i64 xt] 28)) := (Below.refl _ _).alloc (Nat.le_refl _) _
          have h1 := HST.out _ 0 (by omega) hbx
          have HBX := Lib.hid hbx
          clear HST hbx
          go_wp2_with fail
          refine h1.mono ?_
          clear h1
          rintro e w6 ⟨a, m, c, rfl, ho, hb6⟩
          have HO := Lib.hid ho
          clear ho e2
          go_wp2_with fail
          go_ret2
          have hs := (HBW.out.trans (HB2.out.mono HBW.out.size))
          have hs2 := hs.trans (HBX.out.mono hs.size)
          exact ⟨a, m, c, rfl, by rw [← HZ.out]; exact HO.out.base hs2.size, hs2.trans (hb6.mono hs2.size)⟩
        · have hnn : ¬ xa - amt < 0 := hneg
          have hbx : Below w2.heap.size w2 (w2.alloc (.cells #[.int .i64 who, .int .i64 cur, .int .i64 (xa - amt), .int .i64 xt] 28)) := (Below.refl _ _).alloc (Nat.le_refl _) _
          have h1 := HST.out _ (xa - amt) (by omega) hbx
          have HBX := Lib.hid hbx
          clear HST hbx
          go_wp2_with fail
          refine h1.mono ?_
          clear h1
          rintro e w6 ⟨a, m, c, rfl, ho, hb6⟩
          have HO := Lib.hid ho
          clear ho e2
          go_wp2_with fail
          go_ret2
          have hs := (HBW.out.trans (HB2.out.mono HBW.out.size))
          have hs2 := hs.trans (HBX.out.mono hs.size)
          exact ⟨a, m, c, rfl, by rw [← HZ.out]; exact HO.out.base hs2.size, hs2.trans (hb6.mono hs2.size)⟩
end Cam
