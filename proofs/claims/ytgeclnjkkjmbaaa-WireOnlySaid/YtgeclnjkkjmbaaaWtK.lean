import Derived.Test.YtgeclnjkkjmbaaaVf
import Derived.Test.YtgeclnjkkjmbaaaKeep
import Derived.Deep.DeepCutAuto
/- WireOnly: the walk. -/
namespace Cam
open Go Go.RowKit Go.Proofs

theorem wpList_load_row_w {P : Program} {ops : Array Oper} {rest : List Oper} {o : Oper} {a : Act} {w : World} {Q : Exit → Act → World → Prop} (hw : Region.wanted o (yielded ops a.tmps) = true) (ty : TypeId) (x : Operand) (ho : o.op = .load ty x)
    (g : Nat) (hx : a.eval x = .pointer (some ⟨g, 0, none⟩)) (t : TypeId) (cs : Array Value) (fr : Nat × Nat) (d : TypeDesc) (hg : w.heap[g]? = some (.cells cs t fr))
    (hu : P.underlying ty = some d) (hd : (match d with | .struct _ | .array _ _ => true | _ => false) = true) (hi : (P.info? ty).map (·.size) = some cs.size)
    (h : wpList P ops Q rest (a.put o.dst (.agg cs)) w) : wpList P ops Q (o :: rest) a w :=
  wpList_step fun K hK => by simp only [hw, if_true]; exact wp_load_row ty x ho g hx t cs fr d hg hu hd hi (hK _ _ h)
theorem lwG_ge {α : Type} (b : α → List UInt8) {L : List α} (h : L.length ≤ 1024) : (encG b L).length ≤ (lwG b L).length := by
  unfold lwG
  rw [if_neg (by omega), List.length_append]
  omega
theorem encG_le_bytes (x : StT) (h : seaB x.S = false) : (encG SeT.bytes x.S).length ≤ x.bytes.length := by
  have hl : x.S.length ≤ 1024 := by unfold seaB at h; split at h; cases h; omega
  have h1 := lwG_ge SeT.bytes hl
  unfold StT.bytes
  simp only [List.length_append]
  omega
theorem bad_sea {x : StT} (h : x.bad = false) : seaB x.S = false := by
  unfold StT.bad at h
  simp only [Bool.or_eq_false_iff] at h
  exact h.2.2.2.2.2.2
set_option maxRecDepth 100000 in
set_option maxHeartbeats 6400000 in
theorem WireOnly_walk (w : World) (vb : Value) (l : List UInt8) (hb0 : Bs w vb l) :
    Calls Try.prog 7 #[vb] w fun e w' => e = .returned (.bool true) ∧ Below w.heap.size w w' := by
  obtain ⟨av, cv, rfl, hcv, hmv⟩ := hb0.shape
  obtain ⟨n, hn⟩ : ∃ n, n = l.length := ⟨_, rfl⟩
  have HV := Lib.hid hb0
  have HN := Lib.hid hn
  by_cases hlong : 131072 < n
  · rw [← hn] at hcv ⊢
    clear hb0 hn
    go_enter Try.func7, Try.ntmps7
    go_wp2_with fail
    go_ret
    exact ⟨rfl, Below.refl _ _⟩
  · have rc := ReadCmd_any w _ l hb0 (by rw [← hn]; omega)
    unfold RcPost at rc
    obtain ⟨z0, z1, z2, z3, z4, z5, z6, z7, z8, z9, z10, z11, z12, z13, z14, z15, z16, hz⟩ := ivs_lit (readC l).1 (readC_len l)
    have hE2 := readC_two l
    obtain ⟨E, hE⟩ : ∃ E, E = (readC l).2 := ⟨_, rfl⟩
    rw [hz, ← hE] at rc
    rw [← hE] at hE2
    have HZ := Lib.hid (⟨hz, hE⟩ : _ ∧ _)
    have HE2 := Lib.hid hE2
    simp only [ivs, List.map_cons, List.map_nil] at rc
    rw [← hn] at rc hcv ⊢
    clear hb0 hn hz hE hE2
    go_enter Try.func7, Try.ntmps7
    go_wp2_with fail
    refine rc.mono ?_
    clear rc
    rintro e w1 ⟨rfl, hb⟩
    have HB1 := Lib.hid hb
    clear hb
    have hbn : Below w1.heap.size w1 (w1.alloc (.cells #[.int .i64 0, .int .i64 0, .int .i64 0, .int .i64 0, .int .i64 0, .int .i64 0, .int .i64 0, .int .i64 0, .int .i64 0, .int .i64 0, .int .i64 0, .int .i64 0, .int .i64 0, .int .i64 0, .int .i64 0, .int .i64 0, .int .i64 0] 24)) := (Below.refl _ _).alloc (Nat.le_refl _) _
    have hbs : Below w1.heap.size w1 ((w1.alloc (.cells #[.int .i64 0, .int .i64 0, .int .i64 0, .int .i64 0, .int .i64 0, .int .i64 0, .int .i64 0, .int .i64 0, .int .i64 0, .int .i64 0, .int .i64 0, .int .i64 0, .int .i64 0, .int .i64 0, .int .i64 0, .int .i64 0, .int .i64 0] 24)).setRow w1.heap.size #[.int .i64 z0, .int .i64 z1, .int .i64 z2, .int .i64 z3, .int .i64 z4, .int .i64 z5, .int .i64 z6, .int .i64 z7, .int .i64 z8, .int .i64 z9, .int .i64 z10, .int .i64 z11, .int .i64 z12, .int .i64 z13, .int .i64 z14, .int .i64 z15, .int .i64 z16]) := hbn.trans (setRow_below (Nat.le_refl _) _)
    have HSZ1 : Hid ((Try.prog.info? 24).map (·.size) = some (#[.int .i64 z0, .int .i64 z1, .int .i64 z2, .int .i64 z3, .int .i64 z4, .int .i64 z5, .int .i64 z6, .int .i64 z7, .int .i64 z8, .int .i64 z9, .int .i64 z10, .int .i64 z11, .int .i64 z12, .int .i64 z13, .int .i64 z14, .int .i64 z15, .int .i64 z16] : Array Value).size) := by show _ = _; rw [cmdSize]; rfl
    have HSE1 : Hid ((#[.int .i64 0, .int .i64 0, .int .i64 0, .int .i64 0, .int .i64 0, .int .i64 0, .int .i64 0, .int .i64 0, .int .i64 0, .int .i64 0, .int .i64 0, .int .i64 0, .int .i64 0, .int .i64 0, .int .i64 0, .int .i64 0, .int .i64 0] : Array Value).size = (#[.int .i64 z0, .int .i64 z1, .int .i64 z2, .int .i64 z3, .int .i64 z4, .int .i64 z5, .int .i64 z6, .int .i64 z7, .int .i64 z8, .int .i64 z9, .int .i64 z10, .int .i64 z11, .int .i64 z12, .int .i64 z13, .int .i64 z14, .int .i64 z15, .int .i64 z16] : Array Value).size) := by show _ = _; rfl
    have HON1 : Hid ((#[.int .i64 z0, .int .i64 z1, .int .i64 z2, .int .i64 z3, .int .i64 z4, .int .i64 z5, .int .i64 z6, .int .i64 z7, .int .i64 z8, .int .i64 z9, .int .i64 z10, .int .i64 z11, .int .i64 z12, .int .i64 z13, .int .i64 z14, .int .i64 z15, .int .i64 z16] : Array Value).all (·.oneCell') = true) := by show _ = true; simp [Value.oneCell']
    have HBX1 : Hid (HT ((w1.alloc (.cells #[.int .i64 0, .int .i64 0, .int .i64 0, .int .i64 0, .int .i64 0, .int .i64 0, .int .i64 0, .int .i64 0, .int .i64 0, .int .i64 0, .int .i64 0, .int .i64 0, .int .i64 0, .int .i64 0, .int .i64 0, .int .i64 0, .int .i64 0] 24)).setRow w1.heap.size #[.int .i64 z0, .int .i64 z1, .int .i64 z2, .int .i64 z3, .int .i64 z4, .int .i64 z5, .int .i64 z6, .int .i64 z7, .int .i64 z8, .int .i64 z9, .int .i64 z10, .int .i64 z11, .int .i64 z12, .int .i64 z13, .int .i64 z14, .int .i64 z15, .int .i64 z16]) w1.heap.size 24 [.int .i64 z0, .int .i64 z1, .int .i64 z2, .int .i64 z3, .int .i64 z4, .int .i64 z5, .int .i64 z6, .int .i64 z7, .int .i64 z8, .int .i64 z9, .int .i64 z10, .int .i64 z11, .int .i64 z12, .int .i64 z13, .int .i64 z14, .int .i64 z15, .int .i64 z16]) := setRow_heap _ _ _ _ _ _ (heap_alloc_new _ _)
    have HBS := Lib.hid hbs
    clear hbn hbs
    go_upto_region 4 with (first
      | (refine wpList_store_row rfl 24 (.tmp 3) (.tmp 17) rfl w1.heap.size #[.int .i64 z0, .int .i64 z1, .int .i64 z2, .int .i64 z3, .int .i64 z4, .int .i64 z5, .int .i64 z6, .int .i64 z7, .int .i64 z8, .int .i64 z9, .int .i64 z10, .int .i64 z11, .int .i64 z12, .int .i64 z13, .int .i64 z14, .int .i64 z15, .int .i64 z16] rfl rfl 24 #[.int .i64 0, .int .i64 0, .int .i64 0, .int .i64 0, .int .i64 0, .int .i64 0, .int .i64 0, .int .i64 0, .int .i64 0, .int .i64 0, .int .i64 0, .int .i64 0, .int .i64 0, .int .i64 0, .int .i64 0, .int .i64 0, .int .i64 0] (heap_alloc_new _ _) HSZ1.out HSE1.out HON1.out ?_)
      | fail)
    have HB2 : Hid (Below w.heap.size w ((w1.alloc (.cells #[.int .i64 0, .int .i64 0, .int .i64 0, .int .i64 0, .int .i64 0, .int .i64 0, .int .i64 0, .int .i64 0, .int .i64 0, .int .i64 0, .int .i64 0, .int .i64 0, .int .i64 0, .int .i64 0, .int .i64 0, .int .i64 0, .int .i64 0] 24)).setRow w1.heap.size #[.int .i64 z0, .int .i64 z1, .int .i64 z2, .int .i64 z3, .int .i64 z4, .int .i64 z5, .int .i64 z6, .int .i64 z7, .int .i64 z8, .int .i64 z9, .int .i64 z10, .int .i64 z11, .int .i64 z12, .int .i64 z13, .int .i64 z14, .int .i64 z15, .int .i64 z16])) := HB1.out.trans (HBS.out.mono HB1.out.size)
    generalize hW : (w1.alloc (.cells #[.int .i64 0, .int .i64 0, .int .i64 0, .int .i64 0, .int .i64 0, .int .i64 0, .int .i64 0, .int .i64 0, .int .i64 0, .int .i64 0, .int .i64 0, .int .i64 0, .int .i64 0, .int .i64 0, .int .i64 0, .int .i64 0, .int .i64 0] 24)).setRow w1.heap.size #[.int .i64 z0, .int .i64 z1, .int .i64 z2, .int .i64 z3, .int .i64 z4, .int .i64 z5, .int .i64 z6, .int .i64 z7, .int .i64 z8, .int .i64 z9, .int .i64 z10, .int .i64 z11, .int .i64 z12, .int .i64 z13, .int .i64 z14, .int .i64 z15, .int .i64 z16] = w2 at *
    clear hW HBS
    go_cut [27] (fun v27 wx => v27 = .bool false ∧ Below w.heap.size w wx)
    case first =>
      by_cases hE : E = 0
      · subst hE
        have hok := readC_ok HZ.out.2.symm
        have hal := readC_all l
        rw [HZ.out.1] at hok hal
        have cm := Cmd_any w2 z0 z1 z2 z3 z4 z5 z6 z7 z8 z9 z10 z11 z12 z13 z14 z15 z16 hal
        unfold RetB at cm
        rw [← hok] at cm
        have HG : Hid (w2.heap[w1.heap.size]? = some (.cells #[.int .i64 z0, .int .i64 z1, .int .i64 z2, .int .i64 z3, .int .i64 z4, .int .i64 z5, .int .i64 z6, .int .i64 z7, .int .i64 z8, .int .i64 z9, .int .i64 z10, .int .i64 z11, .int .i64 z12, .int .i64 z13, .int .i64 z14, .int .i64 z15, .int .i64 z16] 24 (0, 0))) := HBX1.out
        clear hok hal
        go_wp2_with (first
          | (refine wpList_load_row_w (by first | rfl | simp [Region.wanted, yielded]) 24 (.tmp 3) rfl w1.heap.size rfl 24 #[.int .i64 z0, .int .i64 z1, .int .i64 z2, .int .i64 z3, .int .i64 z4, .int .i64 z5, .int .i64 z6, .int .i64 z7, .int .i64 z8, .int .i64 z9, .int .i64 z10, .int .i64 z11, .int .i64 z12, .int .i64 z13, .int .i64 z14, .int .i64 z15, .int .i64 z16] (0, 0) _ HG.out Try.underlying24 rfl HSZ1.out ?_)
          | fail)
        refine cm.mono ?_
        clear cm
        rintro e w3 ⟨v3, rfl, ho, hb⟩
        have by1 := Bytes_any w3 _ _ l l ho.bs ((HV.out.mono HB2.out).mono hb)
        rw [decide_eq_true rfl, ← HN.out] at by1
        have HB3 := Lib.hid (bgo HB2.out hb HB2.out.size)
        clear ho hb
        go_wp2_with fail
        refine by1.mono ?_
        clear by1
        rintro e w3b ⟨rfl, hb⟩
        have HB4 := Lib.hid (bgo HB3.out hb HB3.out.size)
        clear hb
        go_wp2_with fail
        go_meet
        exact ⟨rfl, HB4.out⟩
      · have hE' : (E == 0) = false := by simpa using hE
        clear hE
        go_wp2_with fail
        go_meet
        exact ⟨rfl, HB2.out⟩
    case rest =>
      obtain ⟨rfl, hcut⟩ := hcut
      have HBC := Lib.hid hcut
      clear hcut HBX1 HB2
      have rp := ReadReply_any wc (.slice av n cv) l (by have h := HV.out; rw [← HN.out] at h; exact h.mono HBC.out) (by rw [← HN.out]; omega)
      unfold readRpPost at rp
      obtain ⟨x, hx⟩ : ∃ x, x = (readRp l).1 := ⟨_, rfl⟩
      obtain ⟨F, hF⟩ : ∃ x, x = (readRp l).2 := ⟨_, rfl⟩
      have hF2 := readRp_01 l
      rw [← hx, ← hF] at rp
      rw [← hF] at hF2
      have HX := Lib.hid (⟨hx, hF⟩ : _ ∧ _)
      have HF2 := Lib.hid hF2
      clear hx hF hF2
      go_wp2_with fail
      refine rp.mono ?_
      clear rp
      rintro e w4 ⟨val, rfl, hv, hb⟩
      have HVR := Lib.hid hv
      have HB5 := Lib.hid (bgo HBC.out hb HBC.out.size)
      obtain ⟨a1, n1, c1, a2, n2, c2, rfl, _, _⟩ := hv
      clear hb
      have hbn : Below w4.heap.size w4 (w4.alloc (.cells #[.int .i64 0, .int .i64 0, .int .i64 0, .slice none 0 0, .slice none 0 0] 41)) := (Below.refl _ _).alloc (Nat.le_refl _) _
      have hbs : Below w4.heap.size w4 ((w4.alloc (.cells #[.int .i64 0, .int .i64 0, .int .i64 0, .slice none 0 0, .slice none 0 0] 41)).setRow w4.heap.size #[.int .i64 x.c, .int .i64 x.n, .int .i64 x.a, .slice a1 n1 c1, .slice a2 n2 c2]) := hbn.trans (setRow_below (Nat.le_refl _) _)
      have HSZ2 : Hid ((Try.prog.info? 41).map (·.size) = some (#[.int .i64 x.c, .int .i64 x.n, .int .i64 x.a, .slice a1 n1 c1, .slice a2 n2 c2] : Array Value).size) := by show _ = _; rw [repSz]; rfl
      have HSE2 : Hid ((#[.int .i64 0, .int .i64 0, .int .i64 0, .slice none 0 0, .slice none 0 0] : Array Value).size = (#[.int .i64 x.c, .int .i64 x.n, .int .i64 x.a, .slice a1 n1 c1, .slice a2 n2 c2] : Array Value).size) := by show _ = _; rfl
      have HON2 : Hid ((#[.int .i64 x.c, .int .i64 x.n, .int .i64 x.a, .slice a1 n1 c1, .slice a2 n2 c2] : Array Value).all (·.oneCell') = true) := by show _ = true; simp [Value.oneCell']
      have HBX2 : Hid (HT ((w4.alloc (.cells #[.int .i64 0, .int .i64 0, .int .i64 0, .slice none 0 0, .slice none 0 0] 41)).setRow w4.heap.size #[.int .i64 x.c, .int .i64 x.n, .int .i64 x.a, .slice a1 n1 c1, .slice a2 n2 c2]) w4.heap.size 41 [.int .i64 x.c, .int .i64 x.n, .int .i64 x.a, .slice a1 n1 c1, .slice a2 n2 c2]) := setRow_heap _ _ _ _ _ _ (heap_alloc_new _ _)
      have HBS := Lib.hid hbs
      clear hbn hbs
      go_upto_if 34 with (first
        | (refine wpList_store_row rfl 41 (.tmp 5) (.tmp 31) rfl w4.heap.size #[.int .i64 x.c, .int .i64 x.n, .int .i64 x.a, .slice a1 n1 c1, .slice a2 n2 c2] rfl rfl 41 #[.int .i64 0, .int .i64 0, .int .i64 0, .slice none 0 0, .slice none 0 0] (heap_alloc_new _ _) HSZ2.out HSE2.out HON2.out ?_)
        | fail)
      have HB6 : Hid (Below w.heap.size w ((w4.alloc (.cells #[.int .i64 0, .int .i64 0, .int .i64 0, .slice none 0 0, .slice none 0 0] 41)).setRow w4.heap.size #[.int .i64 x.c, .int .i64 x.n, .int .i64 x.a, .slice a1 n1 c1, .slice a2 n2 c2])) := HB5.out.trans (HBS.out.mono HB5.out.size)
      have HVR2 := Lib.hid (HVR.out.below HBS.out)
      generalize hW : (w4.alloc (.cells #[.int .i64 0, .int .i64 0, .int .i64 0, .slice none 0 0, .slice none 0 0] 41)).setRow w4.heap.size #[.int .i64 x.c, .int .i64 x.n, .int .i64 x.a, .slice a1 n1 c1, .slice a2 n2 c2] = w5 at *
      clear hW HBS
      go_cut [] (fun wx => Below w.heap.size w wx)
      case first =>
        by_cases hE : F = 0
        · subst hE
          have hok := readRp_ok HX.out.2.symm
          have hal := readRp_all l
          rw [← HX.out.1] at hok hal
          obtain ⟨_, _, _, _, _, _, e1, r1, r2⟩ := HVR2.out
          cases e1
          have rp := Reply_any w5 x.c x.n x.a _ _ x.D x.F hal.1 r1.rs r2.rs hal.2.1 hal.2.2
          unfold BytesPost at rp
          have hbe : bE (repW x.D x.F) (encRep x.c x.n x.a x.D x.F) = 0 ∧ bL (repW x.D x.F) (encRep x.c x.n x.a x.D x.F) = l := by
            have h1 : encRep x.c x.n x.a x.D x.F = l := hok.1.symm
            rw [h1, hok.2.1]
            have h2 := hok.2.2
            unfold bE bL
            simp
            omega
          rw [hbe.1, hbe.2] at rp
          have HG : Hid (w5.heap[w4.heap.size]? = some (.cells #[.int .i64 x.c, .int .i64 x.n, .int .i64 x.a, .slice a1 n1 c1, .slice a2 n2 c2] 41 (0, 0))) := HBX2.out
          clear hok hal r1 r2 hbe
          go_wp2_with (first
            | (refine wpList_load_row rfl 41 (.tmp 5) rfl w4.heap.size rfl 41 #[.int .i64 x.c, .int .i64 x.n, .int .i64 x.a, .slice a1 n1 c1, .slice a2 n2 c2] (0, 0) _ HG.out Try.underlying41 rfl HSZ2.out ?_)
            | fail)
          refine rp.mono ?_
          clear rp
          rintro e w6 ⟨a6, n6, c6, rfl, ho, hb⟩
          have by1 := Bytes_any w6 _ _ l l ho.bs ((HV.out.mono HB6.out).mono hb)
          rw [decide_eq_true rfl, ← HN.out] at by1
          have HB7 := Lib.hid (bgo HB6.out hb HB6.out.size)
          clear ho hb
          go_wp2_with fail
          refine by1.mono ?_
          clear by1
          rintro e w6b ⟨rfl, hb⟩
          have HB8 := Lib.hid (bgo HB7.out hb HB7.out.size)
          clear hb
          go_wp2_with fail
          go_meet
          exact HB8.out
        · have hE' : (F == 0) = false := by simpa using hE
          clear hE
          go_wp2_with fail
          go_meet
          exact HB6.out
      case rest =>
        have HBD := Lib.hid hcut
        clear hcut HBX2 HB6 HVR HVR2 HX HF2
        have rs := ReadState_any wc (.slice av n cv) l (by have h := HV.out; rw [← HN.out] at h; exact h.mono HBD.out) (by rw [← HN.out]; omega)
        unfold readStPost at rs
        obtain ⟨x, hx⟩ : ∃ x, x = (readSt l).1 := ⟨_, rfl⟩
        obtain ⟨G, hF⟩ : ∃ x, x = (readSt l).2 := ⟨_, rfl⟩
        have hF2 := readSt_two l
        rw [← hx, ← hF] at rs
        rw [← hF] at hF2
        have HX := Lib.hid (⟨hx, hF⟩ : _ ∧ _)
        have HF2 := Lib.hid hF2
        clear hx hF hF2
        go_wp2_with fail
        refine rs.mono ?_
        clear rs
        rintro e w7 ⟨val, rfl, hv, hb⟩
        have HVS := Lib.hid hv
        have HB9 := Lib.hid (bgo HBD.out hb HBD.out.size)
        obtain ⟨a1, n1, c1, a2, n2, c2, a3, n3, c3, a4, n4, c4, a5, n5, c5, a6, n6, c6, a7, n7, c7, a8, n8, c8, a9, n9, c9, a10, n10, c10, LSV, rfl, _⟩ := hv
        clear hb
        have hbn : Below w7.heap.size w7 (w7.alloc (.cells #[.int .i64 0, .int .i64 0, .int .i64 0, .slice none 0 0, .slice none 0 0, .slice none 0 0, .int .i64 0, .slice none 0 0, .slice none 0 0, .int .i64 0, .slice none 0 0, .slice none 0 0, .slice none 0 0, .slice none 0 0, .slice none 0 0] 72)) := (Below.refl _ _).alloc (Nat.le_refl _) _
        have hbs : Below w7.heap.size w7 ((w7.alloc (.cells #[.int .i64 0, .int .i64 0, .int .i64 0, .slice none 0 0, .slice none 0 0, .slice none 0 0, .int .i64 0, .slice none 0 0, .slice none 0 0, .int .i64 0, .slice none 0 0, .slice none 0 0, .slice none 0 0, .slice none 0 0, .slice none 0 0] 72)).setRow w7.heap.size #[.int .i64 x.now, .int .i64 x.day, .int .i64 x.ph, .slice a1 n1 c1, .slice a2 n2 c2, .slice a3 n3 c3, .int .i64 x.nx, .slice a4 n4 c4, .slice a5 n5 c5, .int .i64 x.la, .slice a6 n6 c6, .slice a7 n7 c7, .slice a8 n8 c8, .slice a9 n9 c9, .slice a10 n10 c10]) := hbn.trans (setRow_below (Nat.le_refl _) _)
        have HSZ3 : Hid ((Try.prog.info? 72).map (·.size) = some (#[.int .i64 x.now, .int .i64 x.day, .int .i64 x.ph, .slice a1 n1 c1, .slice a2 n2 c2, .slice a3 n3 c3, .int .i64 x.nx, .slice a4 n4 c4, .slice a5 n5 c5, .int .i64 x.la, .slice a6 n6 c6, .slice a7 n7 c7, .slice a8 n8 c8, .slice a9 n9 c9, .slice a10 n10 c10] : Array Value).size) := by show _ = _; rw [stSz]; rfl
        have HSE3 : Hid ((#[.int .i64 0, .int .i64 0, .int .i64 0, .slice none 0 0, .slice none 0 0, .slice none 0 0, .int .i64 0, .slice none 0 0, .slice none 0 0, .int .i64 0, .slice none 0 0, .slice none 0 0, .slice none 0 0, .slice none 0 0, .slice none 0 0] : Array Value).size = (#[.int .i64 x.now, .int .i64 x.day, .int .i64 x.ph, .slice a1 n1 c1, .slice a2 n2 c2, .slice a3 n3 c3, .int .i64 x.nx, .slice a4 n4 c4, .slice a5 n5 c5, .int .i64 x.la, .slice a6 n6 c6, .slice a7 n7 c7, .slice a8 n8 c8, .slice a9 n9 c9, .slice a10 n10 c10] : Array Value).size) := by show _ = _; rfl
        have HON3 : Hid ((#[.int .i64 x.now, .int .i64 x.day, .int .i64 x.ph, .slice a1 n1 c1, .slice a2 n2 c2, .slice a3 n3 c3, .int .i64 x.nx, .slice a4 n4 c4, .slice a5 n5 c5, .int .i64 x.la, .slice a6 n6 c6, .slice a7 n7 c7, .slice a8 n8 c8, .slice a9 n9 c9, .slice a10 n10 c10] : Array Value).all (·.oneCell') = true) := by show _ = true; simp [Value.oneCell']
        have HBX3 : Hid (HT ((w7.alloc (.cells #[.int .i64 0, .int .i64 0, .int .i64 0, .slice none 0 0, .slice none 0 0, .slice none 0 0, .int .i64 0, .slice none 0 0, .slice none 0 0, .int .i64 0, .slice none 0 0, .slice none 0 0, .slice none 0 0, .slice none 0 0, .slice none 0 0] 72)).setRow w7.heap.size #[.int .i64 x.now, .int .i64 x.day, .int .i64 x.ph, .slice a1 n1 c1, .slice a2 n2 c2, .slice a3 n3 c3, .int .i64 x.nx, .slice a4 n4 c4, .slice a5 n5 c5, .int .i64 x.la, .slice a6 n6 c6, .slice a7 n7 c7, .slice a8 n8 c8, .slice a9 n9 c9, .slice a10 n10 c10]) w7.heap.size 72 [.int .i64 x.now, .int .i64 x.day, .int .i64 x.ph, .slice a1 n1 c1, .slice a2 n2 c2, .slice a3 n3 c3, .int .i64 x.nx, .slice a4 n4 c4, .slice a5 n5 c5, .int .i64 x.la, .slice a6 n6 c6, .slice a7 n7 c7, .slice a8 n8 c8, .slice a9 n9 c9, .slice a10 n10 c10]) := setRow_heap _ _ _ _ _ _ (heap_alloc_new _ _)
        have HBS := Lib.hid hbs
        clear hbn hbs
        go_upto_if 54 with (first
          | (refine wpList_store_row rfl 72 (.tmp 8) (.tmp 51) rfl w7.heap.size #[.int .i64 x.now, .int .i64 x.day, .int .i64 x.ph, .slice a1 n1 c1, .slice a2 n2 c2, .slice a3 n3 c3, .int .i64 x.nx, .slice a4 n4 c4, .slice a5 n5 c5, .int .i64 x.la, .slice a6 n6 c6, .slice a7 n7 c7, .slice a8 n8 c8, .slice a9 n9 c9, .slice a10 n10 c10] rfl rfl 72 #[.int .i64 0, .int .i64 0, .int .i64 0, .slice none 0 0, .slice none 0 0, .slice none 0 0, .int .i64 0, .slice none 0 0, .slice none 0 0, .int .i64 0, .slice none 0 0, .slice none 0 0, .slice none 0 0, .slice none 0 0, .slice none 0 0] (heap_alloc_new _ _) HSZ3.out HSE3.out HON3.out ?_)
          | fail)
        have HBA : Hid (Below w.heap.size w ((w7.alloc (.cells #[.int .i64 0, .int .i64 0, .int .i64 0, .slice none 0 0, .slice none 0 0, .slice none 0 0, .int .i64 0, .slice none 0 0, .slice none 0 0, .int .i64 0, .slice none 0 0, .slice none 0 0, .slice none 0 0, .slice none 0 0, .slice none 0 0] 72)).setRow w7.heap.size #[.int .i64 x.now, .int .i64 x.day, .int .i64 x.ph, .slice a1 n1 c1, .slice a2 n2 c2, .slice a3 n3 c3, .int .i64 x.nx, .slice a4 n4 c4, .slice a5 n5 c5, .int .i64 x.la, .slice a6 n6 c6, .slice a7 n7 c7, .slice a8 n8 c8, .slice a9 n9 c9, .slice a10 n10 c10])) := HB9.out.trans (HBS.out.mono HB9.out.size)
        have HVS2 := Lib.hid (HVS.out.below HBS.out)
        generalize hW : (w7.alloc (.cells #[.int .i64 0, .int .i64 0, .int .i64 0, .slice none 0 0, .slice none 0 0, .slice none 0 0, .int .i64 0, .slice none 0 0, .slice none 0 0, .int .i64 0, .slice none 0 0, .slice none 0 0, .slice none 0 0, .slice none 0 0, .slice none 0 0] 72)).setRow w7.heap.size #[.int .i64 x.now, .int .i64 x.day, .int .i64 x.ph, .slice a1 n1 c1, .slice a2 n2 c2, .slice a3 n3 c3, .int .i64 x.nx, .slice a4 n4 c4, .slice a5 n5 c5, .int .i64 x.la, .slice a6 n6 c6, .slice a7 n7 c7, .slice a8 n8 c8, .slice a9 n9 c9, .slice a10 n10 c10] = w8 at *
        clear hW HBS
        go_cut [] (fun wx => Below w.heap.size w wx)
        case first =>
          by_cases hE : G = 0
          · subst hE
            have hok := readSt_ok HX.out.2.symm
            have hal := readSt_all l
            rw [← HX.out.1] at hok hal
            obtain ⟨_, _, _, _, _, _, _, _, _, _, _, _, _, _, _, _, _, _, _, _, _, _, _, _, _, _, _, _, _, _, L9, e1, hc9⟩ := StOwn.c HVS2.out
            cases e1
            have hsz : (encG SeT.bytes x.S).length ≤ 50000000 := by
              have h1 := encG_le_bytes x (bad_sea hok.2.1)
              rw [← hok.1] at h1
              have := hok.2.2
              omega
            have rs := State_any w8 _ _ _ _ _ _ _ _ _ _ _ _ _ _ _ _ _ _ _ _ _ _ _ _ _ _ _ _ _ _ L9 x hc9 hal hsz
            unfold BytesPost at rs
            have hbe : bE x.bad x.bytes = 0 ∧ bL x.bad x.bytes = l := by
              rw [← hok.1, hok.2.1]
              have h2 := hok.2.2
              unfold bE bL
              simp
              omega
            rw [hbe.1, hbe.2] at rs
            have HG : Hid (w8.heap[w7.heap.size]? = some (.cells #[.int .i64 x.now, .int .i64 x.day, .int .i64 x.ph, .slice a1 n1 c1, .slice a2 n2 c2, .slice a3 n3 c3, .int .i64 x.nx, .slice a4 n4 c4, .slice a5 n5 c5, .int .i64 x.la, .slice a6 n6 c6, .slice a7 n7 c7, .slice a8 n8 c8, .slice a9 n9 c9, .slice a10 n10 c10] 72 (0, 0))) := HBX3.out
            clear hok hal hc9 hsz hbe
            go_wp2_with (first
              | (refine wpList_load_row rfl 72 (.tmp 8) rfl w7.heap.size rfl 72 #[.int .i64 x.now, .int .i64 x.day, .int .i64 x.ph, .slice a1 n1 c1, .slice a2 n2 c2, .slice a3 n3 c3, .int .i64 x.nx, .slice a4 n4 c4, .slice a5 n5 c5, .int .i64 x.la, .slice a6 n6 c6, .slice a7 n7 c7, .slice a8 n8 c8, .slice a9 n9 c9, .slice a10 n10 c10] (0, 0) _ HG.out Try.underlying72 rfl HSZ3.out ?_)
              | fail)
            refine rs.mono ?_
            clear rs
            rintro e w9 ⟨a16, n16, c16, rfl, ho, hb⟩
            have by1 := Bytes_any w9 _ _ l l ho.bs ((HV.out.mono HBA.out).mono hb)
            rw [decide_eq_true rfl, ← HN.out] at by1
            have HBB := Lib.hid (bgo HBA.out hb HBA.out.size)
            clear ho hb
            go_wp2_with fail
            refine by1.mono ?_
            clear by1
            rintro e w9b ⟨rfl, hb⟩
            have HBE := Lib.hid (bgo HBB.out hb HBB.out.size)
            clear hb
            go_wp2_with fail
            go_meet
            exact HBE.out
          · have hE' : (G == 0) = false := by simpa using hE
            clear hE
            go_wp2_with fail
            go_meet
            exact HBA.out
        case rest =>
          have HBF := Lib.hid hcut
          have wk := wakes_any wc
          clear hcut
          go_wp2_with fail
          refine wk.mono ?_
          clear wk
          rintro e wz ⟨rfl, hb⟩
          go_wp2_with fail
          go_ret
          exact ⟨rfl, bgo HBF.out hb HBF.out.size⟩
end Cam
