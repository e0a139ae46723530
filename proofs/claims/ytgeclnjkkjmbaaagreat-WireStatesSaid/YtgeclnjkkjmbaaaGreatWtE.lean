import Derived.Test.YtgeclnjkkjmbaaaGreatWtD
/- wire.writer: roll, book, state; wire.State. -/
namespace Cam
open Go Go.RowKit Go.Proofs
set_option linter.unusedVariables false
set_option linter.unusedSimpArgs false
set_option maxRecDepth 100000
set_option maxHeartbeats 3200000
variable {tw : TypeId}
def rollB (M : List MbT) (I : List InT) (A : List AsT) : List UInt8 := lwG MbT.bytes M ++ (lwG InT.bytes I ++ lwG AsT.bytes A)
def rollW (M : List MbT) (I : List InT) (A : List AsT) : Bool := decide (1024 < M.length) || (decide (1024 < I.length) || decide (1024 < A.length))
def bookB (n : Int) (T : List TrT) (P : List PoT) : List UInt8 := encIs [n] ++ (lwG TrT.bytes T ++ lwG PoT.bytes P)
def bookW (T : List TrT) (P : List PoT) : Bool := decide (1024 < T.length) || decide (1024 < P.length)
theorem wroll_any (w : World) (g : Nat) (v : Value) (l : List UInt8) (lg wb : Bool) (a1 : Option Addr) (n1 c1 : Nat) (a2 : Option Addr) (n2 c2 : Nat) (a3 : Option Addr) (n3 c3 : Nat) (M : List MbT) (I : List InT) (A : List AsT) (hp : PW tw [.bool wb] w g v l lg) (hx1 : ∀ w9, Kept (fun k => k = g ∨ v.ownBlock = some k) w w9 → Rs MbT.vs 3 w9 (.slice a1 n1 c1) M) (hr1 : ∀ x ∈ M, okI x.ints) (hx2 : ∀ w9, Kept (fun k => k = g ∨ v.ownBlock = some k) w w9 → Rs InT.vs 12 w9 (.slice a2 n2 c2) I) (hr2 : ∀ x ∈ I, okI x.ints) (hx3 : ∀ w9, Kept (fun k => k = g ∨ v.ownBlock = some k) w w9 → Rs AsT.vs 4 w9 (.slice a3 n3 c3) A) (hr3 : ∀ x ∈ A, okI x.ints) (hlen : l.length ≤ 30000000) :
  Calls Tryz.prog 56 #[.pointer (some ⟨g, 0, none⟩), .agg #[.slice a1 n1 c1, .slice a2 n2 c2, .slice a3 n3 c3]] w fun e w' => e = .returned (.tuple #[]) ∧ PWPost tw [.bool (wb || rollW M I A)] w g v (l ++ rollB M I A) lg w' := by
 have hb1 : Below w.heap.size w (w.alloc (.cells #[.pointer (some ⟨g, 0, none⟩)] 83)) := Bn
 have hb2 : Below w.heap.size w ((w.alloc (.cells #[.pointer (some ⟨g, 0, none⟩)] 83)).alloc (.cells #[.slice a1 n1 c1, .slice a2 n2 c2, .slice a3 n3 c3] 28)) := hb1.alloc hb1.size _
 have hgw : HT ((w.alloc (.cells #[.pointer (some ⟨g, 0, none⟩)] 83)).alloc (.cells #[.slice a1 n1 c1, .slice a2 n2 c2, .slice a3 n3 c3] 28)) w.heap.size 83 [.pointer (some ⟨g, 0, none⟩)] := (HT.new (w := w)).below (Bn)
 have hbc : HT ((w.alloc (.cells #[.pointer (some ⟨g, 0, none⟩)] 83)).alloc (.cells #[.slice a1 n1 c1, .slice a2 n2 c2, .slice a3 n3 c3] 28)) (w.heap.size + 1) 28 [.slice a1 n1 c1, .slice a2 n2 c2, .slice a3 n3 c3] := by
  have := HT.new (w := w.alloc (.cells #[.pointer (some ⟨g, 0, none⟩)] 83)) (t := 28) (C := [.slice a1 n1 c1, .slice a2 n2 c2, .slice a3 n3 c3])
  rw [show (w.alloc (.cells #[.pointer (some ⟨g, 0, none⟩)] 83)).heap.size = w.heap.size + 1 by simp] at this
  exact this
 have hlt := hp.lt
 have hrow : ∀ k, v.ownBlock = some k → k < w.heap.size := fun k e => (hp.row k e).2
 have HP0 := Lh (hp.below hb2)
 have HGW := Lh hgw
 have HBC := Lh hbc
 have HBX := Lh hb2
 have HX1 : Hid _ := fun w9 (hk : Kept (fun k => k = g ∨ v.ownBlock = some k) ((w.alloc (.cells #[.pointer (some ⟨g, 0, none⟩)] 83)).alloc (.cells #[.slice a1 n1 c1, .slice a2 n2 c2, .slice a3 n3 c3] 28)) w9) => hx1 w9 (((Kept.of_below hb2).weaken (fun _ h => h.elim)).trans hk (fun _ _ h => h))
 have HR1 := Lh hr1
 have HX2 : Hid _ := fun w9 (hk : Kept (fun k => k = g ∨ v.ownBlock = some k) ((w.alloc (.cells #[.pointer (some ⟨g, 0, none⟩)] 83)).alloc (.cells #[.slice a1 n1 c1, .slice a2 n2 c2, .slice a3 n3 c3] 28)) w9) => hx2 w9 (((Kept.of_below hb2).weaken (fun _ h => h.elim)).trans hk (fun _ _ h => h))
 have HR2 := Lh hr2
 have HX3 : Hid _ := fun w9 (hk : Kept (fun k => k = g ∨ v.ownBlock = some k) ((w.alloc (.cells #[.pointer (some ⟨g, 0, none⟩)] 83)).alloc (.cells #[.slice a1 n1 c1, .slice a2 n2 c2, .slice a3 n3 c3] 28)) w9) => hx3 w9 (((Kept.of_below hb2).weaken (fun _ h => h.elim)).trans hk (fun _ _ h => h))
 have HR3 := Lh hr3
 clear hx1 hr1 hx2 hr2 hx3 hr3
 have HLEN := Lh hlen
 have HNE : Hid (w.heap.size + 1 ≠ g ∧ v.ownBlock ≠ some (w.heap.size + 1) ∧ w.heap.size ≠ g ∧ v.ownBlock ≠ some w.heap.size) := ⟨by omega, fun e => by have := hrow _ e; omega, by omega, fun e => by have := hrow _ e; omega⟩
 clear hb1 hb2 hgw hbc hlt hrow hp hlen
 go_in
 go_wp2_with fail
 generalize hW : ((w.alloc (.cells #[.pointer (some ⟨g, 0, none⟩)] 83)).alloc (.cells #[.slice a1 n1 c1, .slice a2 n2 c2, .slice a3 n3 c3] 28)) = W0 at *
 clear hW
 generalize hgc : w.heap.size + 1 = gc at *
 generalize hgq : w.heap.size = gw at *
 have HBX := Lh (show Below w.heap.size w W0 by rw [hgq]; exact HBX.out)
 clear hgc hgq
 have HK0 : Hid (Kept (fun k => k = g ∨ v.ownBlock = some k) W0 W0) := Kept.refl _ _
 have HO0 : Hid (∀ k, v.ownBlock = some k → v.ownBlock = some k ∨ W0.heap.size ≤ k) := fun k h => .inl h
 have HL0 : Hid (l.length ≤ 30000000) := HLEN.out
 have hgw0 := HGW.out.keptH HK0.out (fun e => e.elim (fun e => HNE.out.2.2.1 e) (fun e => HNE.out.2.2.2 e))
 have hbc0 := HBC.out.keptH HK0.out (fun e => e.elim (fun e => HNE.out.1 e) (fun e => HNE.out.2.1 e))
 have hcg := hgw0.cell (j := 0) rfl
 have hgn : gw ≠ g ∧ v.ownBlock ≠ some gw := ⟨HNE.out.2.2.1, fun e => by rcases HO0.out gw e with h | h; exact HNE.out.2.2.2 h; have := HGW.out.lt; omega⟩
 have hfc := hbc0.cell (j := 0) rfl
 have ls := wlistA_mem (tw := tw) (tb := 83) W0 g v (l) lg (wb) gw (.slice a1 n1 c1) M HP0.out hgw0 hgn (fun w9 hk => HX1.out w9 (kept_next HK0.out HO0.out hk)) HR1.out (by have h1 := HL0.out; omega)
 clear hgw0 hbc0 hgn
 go_wp2_with fail
 refine ls.mono ?_
 clear ls hcg hfc
 rintro e w1 ⟨rfl, hp9⟩
 obtain ⟨v1, hp8, hk8, ho8⟩ := hp9
 have HK1 := Lh (kept_next HK0.out HO0.out hk8)
 have HO1 : Hid (∀ k, v1.ownBlock = some k → v.ownBlock = some k ∨ W0.heap.size ≤ k) := fun k e => by
  rcases ho8 k e with h | h
  ·
   exact HO0.out k h
  ·
   exact .inr (Nat.le_trans HK0.out.size h)
 have HP1 := Lh hp8
 have HL1 : Hid ((l ++ lwG MbT.bytes M).length ≤ 30700000) := by
  show _ ≤ _
  rw [List.length_append]
  have h1 := HL0.out
  have h2 := lwG_length MbT.bytes 200 M (fun x hx => MbT.blen x (HR1.out x hx))
  omega
 clear hp8 hk8 ho8
 have hgw1 := HGW.out.keptH HK1.out (fun e => e.elim (fun e => HNE.out.2.2.1 e) (fun e => HNE.out.2.2.2 e))
 have hbc1 := HBC.out.keptH HK1.out (fun e => e.elim (fun e => HNE.out.1 e) (fun e => HNE.out.2.1 e))
 have hcg := hgw1.cell (j := 0) rfl
 have hgn : gw ≠ g ∧ v1.ownBlock ≠ some gw := ⟨HNE.out.2.2.1, fun e => by rcases HO1.out gw e with h | h; exact HNE.out.2.2.2 h; have := HGW.out.lt; omega⟩
 have hfc := hbc1.cell (j := 1) rfl
 have ls := wlistA_ins (tw := tw) (tb := 83) w1 g v1 (l ++ lwG MbT.bytes M) lg (wb || decide (1024 < M.length)) gw (.slice a2 n2 c2) I HP1.out hgw1 hgn (fun w9 hk => HX2.out w9 (kept_next HK1.out HO1.out hk)) HR2.out (by have h1 := HL1.out; omega)
 clear hgw1 hbc1 hgn
 go_wp2_with fail
 refine ls.mono ?_
 clear ls hcg hfc
 rintro e w2 ⟨rfl, hp9⟩
 obtain ⟨v2, hp8, hk8, ho8⟩ := hp9
 have HK2 := Lh (kept_next HK1.out HO1.out hk8)
 have HO2 : Hid (∀ k, v2.ownBlock = some k → v.ownBlock = some k ∨ W0.heap.size ≤ k) := fun k e => by
  rcases ho8 k e with h | h
  ·
   exact HO1.out k h
  ·
   exact .inr (Nat.le_trans HK1.out.size h)
 have HP2 := Lh hp8
 have HL2 : Hid ((l ++ lwG MbT.bytes M ++ lwG InT.bytes I).length ≤ 31400000) := by
  show _ ≤ _
  rw [List.length_append]
  have h1 := HL1.out
  have h2 := lwG_length InT.bytes 200 I (fun x hx => InT.blen x (HR2.out x hx))
  omega
 clear hp8 hk8 ho8
 have hgw2 := HGW.out.keptH HK2.out (fun e => e.elim (fun e => HNE.out.2.2.1 e) (fun e => HNE.out.2.2.2 e))
 have hbc2 := HBC.out.keptH HK2.out (fun e => e.elim (fun e => HNE.out.1 e) (fun e => HNE.out.2.1 e))
 have hcg := hgw2.cell (j := 0) rfl
 have hgn : gw ≠ g ∧ v2.ownBlock ≠ some gw := ⟨HNE.out.2.2.1, fun e => by rcases HO2.out gw e with h | h; exact HNE.out.2.2.2 h; have := HGW.out.lt; omega⟩
 have hfc := hbc2.cell (j := 2) rfl
 have ls := wlistA_ass (tw := tw) (tb := 83) w2 g v2 (l ++ lwG MbT.bytes M ++ lwG InT.bytes I) lg (wb || decide (1024 < M.length) || decide (1024 < I.length)) gw (.slice a3 n3 c3) A HP2.out hgw2 hgn (fun w9 hk => HX3.out w9 (kept_next HK2.out HO2.out hk)) HR3.out (by have h1 := HL2.out; omega)
 clear hgw2 hbc2 hgn
 go_wp2_with fail
 refine ls.mono ?_
 clear ls hcg hfc
 rintro e w3 ⟨rfl, hp9⟩
 obtain ⟨v3, hp8, hk8, ho8⟩ := hp9
 have HK3 := Lh (kept_next HK2.out HO2.out hk8)
 have HO3 : Hid (∀ k, v3.ownBlock = some k → v.ownBlock = some k ∨ W0.heap.size ≤ k) := fun k e => by
  rcases ho8 k e with h | h
  ·
   exact HO2.out k h
  ·
   exact .inr (Nat.le_trans HK2.out.size h)
 have HP3 := Lh hp8
 have HL3 : Hid ((l ++ lwG MbT.bytes M ++ lwG InT.bytes I ++ lwG AsT.bytes A).length ≤ 32100000) := by
  show _ ≤ _
  rw [List.length_append]
  have h1 := HL2.out
  have h2 := lwG_length AsT.bytes 200 A (fun x hx => AsT.blen x (HR3.out x hx))
  omega
 clear hp8 hk8 ho8
 go_wp2_with fail
 go_end0
 refine ⟨rfl, PWPost.pre HBX.out ?_⟩
 have hf : PWPost tw [.bool (wb || decide (1024 < M.length) || decide (1024 < I.length) || decide (1024 < A.length))] W0 g v (l ++ lwG MbT.bytes M ++ lwG InT.bytes I ++ lwG AsT.bytes A) lg w3 := ⟨v3, HP3.out, HK3.out, HO3.out⟩
 have e1 : l ++ lwG MbT.bytes M ++ lwG InT.bytes I ++ lwG AsT.bytes A = l ++ rollB M I A := by unfold rollB; simp only [List.append_assoc]
 have e2 : (wb || decide (1024 < M.length) || decide (1024 < I.length) || decide (1024 < A.length)) = (wb || rollW M I A) := by unfold rollW; simp only [Bool.or_assoc]
 rw [e1, e2] at hf
 exact hf
theorem wbook_any (w : World) (g : Nat) (v : Value) (l : List UInt8) (lg wb : Bool) (nx : Int) (a1 : Option Addr) (n1 c1 : Nat) (a2 : Option Addr) (n2 c2 : Nat) (T : List TrT) (P : List PoT) (hp : PW tw [.bool wb] w g v l lg) (hnx : okI [nx]) (hx1 : ∀ w9, Kept (fun k => k = g ∨ v.ownBlock = some k) w w9 → Rs TrT.vs 7 w9 (.slice a1 n1 c1) T) (hr1 : ∀ x ∈ T, okI x.ints) (hx2 : ∀ w9, Kept (fun k => k = g ∨ v.ownBlock = some k) w w9 → Rs PoT.vs 4 w9 (.slice a2 n2 c2) P) (hr2 : ∀ x ∈ P, okI x.ints) (hlen : l.length ≤ 30000000) :
  Calls Tryz.prog 57 #[.pointer (some ⟨g, 0, none⟩), .agg #[nx, .slice a1 n1 c1, .slice a2 n2 c2]] w fun e w' => e = .returned (.tuple #[]) ∧ PWPost tw [.bool (wb || bookW T P)] w g v (l ++ bookB nx T P) lg w' := by
 have hb1 : Below w.heap.size w (w.alloc (.cells #[.pointer (some ⟨g, 0, none⟩)] 83)) := Bn
 have hb2 : Below w.heap.size w ((w.alloc (.cells #[.pointer (some ⟨g, 0, none⟩)] 83)).alloc (.cells #[nx, .slice a1 n1 c1, .slice a2 n2 c2] 32)) := hb1.alloc hb1.size _
 have hgw : HT ((w.alloc (.cells #[.pointer (some ⟨g, 0, none⟩)] 83)).alloc (.cells #[nx, .slice a1 n1 c1, .slice a2 n2 c2] 32)) w.heap.size 83 [.pointer (some ⟨g, 0, none⟩)] := (HT.new (w := w)).below (Bn)
 have hbc : HT ((w.alloc (.cells #[.pointer (some ⟨g, 0, none⟩)] 83)).alloc (.cells #[nx, .slice a1 n1 c1, .slice a2 n2 c2] 32)) (w.heap.size + 1) 32 [nx, .slice a1 n1 c1, .slice a2 n2 c2] := by
  have := HT.new (w := w.alloc (.cells #[.pointer (some ⟨g, 0, none⟩)] 83)) (t := 32) (C := [.int .i64 nx, .slice a1 n1 c1, .slice a2 n2 c2])
  rw [show (w.alloc (.cells #[.pointer (some ⟨g, 0, none⟩)] 83)).heap.size = w.heap.size + 1 by simp] at this
  exact this
 have hlt := hp.lt
 have hrow : ∀ k, v.ownBlock = some k → k < w.heap.size := fun k e => (hp.row k e).2
 have HP0 := Lh (hp.below hb2)
 have HGW := Lh hgw
 have HBC := Lh hbc
 have HBX := Lh hb2
 have HX1 : Hid _ := fun w9 (hk : Kept (fun k => k = g ∨ v.ownBlock = some k) ((w.alloc (.cells #[.pointer (some ⟨g, 0, none⟩)] 83)).alloc (.cells #[nx, .slice a1 n1 c1, .slice a2 n2 c2] 32)) w9) => hx1 w9 (((Kept.of_below hb2).weaken (fun _ h => h.elim)).trans hk (fun _ _ h => h))
 have HR1 := Lh hr1
 have HX2 : Hid _ := fun w9 (hk : Kept (fun k => k = g ∨ v.ownBlock = some k) ((w.alloc (.cells #[.pointer (some ⟨g, 0, none⟩)] 83)).alloc (.cells #[nx, .slice a1 n1 c1, .slice a2 n2 c2] 32)) w9) => hx2 w9 (((Kept.of_below hb2).weaken (fun _ h => h.elim)).trans hk (fun _ _ h => h))
 have HR2 := Lh hr2
 clear hx1 hr1 hx2 hr2
 have HNX := Lh hnx
 clear hnx
 have HLEN := Lh hlen
 have HNE : Hid (w.heap.size + 1 ≠ g ∧ v.ownBlock ≠ some (w.heap.size + 1) ∧ w.heap.size ≠ g ∧ v.ownBlock ≠ some w.heap.size) := ⟨by omega, fun e => by have := hrow _ e; omega, by omega, fun e => by have := hrow _ e; omega⟩
 clear hb1 hb2 hgw hbc hlt hrow hp hlen
 go_in
 go_wp2_with fail
 generalize hW : ((w.alloc (.cells #[.pointer (some ⟨g, 0, none⟩)] 83)).alloc (.cells #[nx, .slice a1 n1 c1, .slice a2 n2 c2] 32)) = W0 at *
 clear hW
 generalize hgc : w.heap.size + 1 = gc at *
 generalize hgq : w.heap.size = gw at *
 have HBX := Lh (show Below w.heap.size w W0 by rw [hgq]; exact HBX.out)
 clear hgc hgq
 have HK0 : Hid (Kept (fun k => k = g ∨ v.ownBlock = some k) W0 W0) := Kept.refl _ _
 have HO0 : Hid (∀ k, v.ownBlock = some k → v.ownBlock = some k ∨ W0.heap.size ≤ k) := fun k h => .inl h
 have HL0 : Hid (l.length ≤ 30000000) := HLEN.out
 have hgw0 := HGW.out.keptH HK0.out (fun e => e.elim (fun e => HNE.out.2.2.1 e) (fun e => HNE.out.2.2.2 e))
 have hbc0 := HBC.out.keptH HK0.out (fun e => e.elim (fun e => HNE.out.1 e) (fun e => HNE.out.2.1 e))
 have HGWX := Lh hgw0
 have HBCX := Lh hbc0
 clear hgw0 hbc0
 refine wp_region_bl 6 (by kernel_rfl) ?_
 refine uL 0 (some 4) (.pointer (some ⟨g, 0, none⟩)) (BL.cls W0) (fun w hSw => BL.cell hSw (HGWX.out.cell (j := 0) rfl)) ?_
 refine uP 3 [(1, some 5, .pointer (some ⟨g, 0, none⟩)), (2, some 6, .pointer (some ⟨g, 0, none⟩)), (3, some 7, .pointer (some ⟨gc, 0, none⟩))] (BL.cls W0) ?_
 refine uL 4 (some 8) (.int .i64 nx) (BL.cls W0) (fun w hSw => BL.cell hSw (HBCX.out.cell (j := 0) rfl)) ?_
 simp only [zq]
 refine uS 5 rfl (fun wA5 hA5 K hK => ?_)
 go_simp
 refine hK.out _ _ (BL (wA5.alloc (.cells #[nx] 3))) (BL.cls' (hA5.alloc (Below.size hA5) _)) (Below.refl _ _) ?_
 clear hK K
 try simp only [zq]
 refine uZ rfl (fun wZ hb1 K hK => ?_)
 go_simp
 have hbl : Below W0.heap.size W0 wZ := (Below.alloc hA5 hA5.size (.cells #[nx] 3)).trans (hb1.mono (by simp; exact Nat.le_succ_of_le hA5.size))
 have hp1 := HP0.out.below hbl
 have his : Is (wA5.alloc (.cells #[nx] 3)) (.slice (some ⟨wA5.heap.size, 0, none⟩) 1 1) [nx] := Is.block (l := [nx]) (heap_new rfl) (Nat.le_refl _) (by simp [maxLen])
 have his1 := his.mono hb1
 refine (WInt_any wZ g v (l) lg _ _ hp1 his1 (fun w2 hk => his1.kept1 hk (fun _ k hi e => ?_)) HNX.out (by have := HL0.out; rw [show ([nx] : List Int).length = 1 from rfl]; omega)).mono ?_
 ·
  obtain ⟨ad, n, c, hv, rfl⟩ := hi
  injection hv with h5
  injection h5 with h5
  subst h5
  have h6 := hA5.size
  rcases e with e | e'
  ·
   have := HP0.out.lt
   simp only at e
   omega
  ·
   have := (HP0.out.row _ e').2
   simp only at this
   omega
 rintro e w1 ⟨rfl, hpo⟩
 have HPO := Lh (hpo.pre hbl)
 clear hbl hp1 his his1 hpo hb1
 refine hK.out _ _ ?_
 clear hK K
 try simp only [zq]
 obtain ⟨v1, hp8, hk8, ho8⟩ := HPO.out
 have HK1 := Lh (kept_next HK0.out HO0.out hk8)
 have HO1 : Hid (∀ k, v1.ownBlock = some k → v.ownBlock = some k ∨ W0.heap.size ≤ k) := fun k e => by
  rcases ho8 k e with h | h
  ·
   exact HO0.out k h
  ·
   exact .inr (Nat.le_trans HK0.out.size h)
 have HP1 := Lh hp8
 have HL1 : Hid ((l ++ encIs [nx]).length ≤ 30700000) := by
  show _ ≤ _
  rw [List.length_append]
  have h1 := HL0.out
  have h2 := encIs_length [nx] HNX.out
  rw [show ([nx] : List Int).length = 1 from rfl] at h2
  omega
 clear hp8 hk8 ho8
 clear HPO
 have hgw1 := HGW.out.keptH HK1.out (fun e => e.elim (fun e => HNE.out.2.2.1 e) (fun e => HNE.out.2.2.2 e))
 have hbc1 := HBC.out.keptH HK1.out (fun e => e.elim (fun e => HNE.out.1 e) (fun e => HNE.out.2.1 e))
 have hcg := hgw1.cell (j := 0) rfl
 have hgn : gw ≠ g ∧ v1.ownBlock ≠ some gw := ⟨HNE.out.2.2.1, fun e => by rcases HO1.out gw e with h | h; exact HNE.out.2.2.2 h; have := HGW.out.lt; omega⟩
 have hfc := hbc1.cell (j := 1) rfl
 have ls := wlistA_trd (tw := tw) (tb := 83) w1 g v1 (l ++ encIs [nx]) lg (wb) gw (.slice a1 n1 c1) T HP1.out hgw1 hgn (fun w9 hk => HX1.out w9 (kept_next HK1.out HO1.out hk)) HR1.out (by have h1 := HL1.out; omega)
 clear hgw1 hbc1 hgn
 go_wp2_with fail
 refine ls.mono ?_
 clear ls hcg hfc
 rintro e w2 ⟨rfl, hp9⟩
 obtain ⟨v2, hp8, hk8, ho8⟩ := hp9
 have HK2 := Lh (kept_next HK1.out HO1.out hk8)
 have HO2 : Hid (∀ k, v2.ownBlock = some k → v.ownBlock = some k ∨ W0.heap.size ≤ k) := fun k e => by
  rcases ho8 k e with h | h
  ·
   exact HO1.out k h
  ·
   exact .inr (Nat.le_trans HK1.out.size h)
 have HP2 := Lh hp8
 have HL2 : Hid ((l ++ encIs [nx] ++ lwG TrT.bytes T).length ≤ 31400000) := by
  show _ ≤ _
  rw [List.length_append]
  have h1 := HL1.out
  have h2 := lwG_length TrT.bytes 200 T (fun x hx => TrT.blen x (HR1.out x hx))
  omega
 clear hp8 hk8 ho8
 have hgw2 := HGW.out.keptH HK2.out (fun e => e.elim (fun e => HNE.out.2.2.1 e) (fun e => HNE.out.2.2.2 e))
 have hbc2 := HBC.out.keptH HK2.out (fun e => e.elim (fun e => HNE.out.1 e) (fun e => HNE.out.2.1 e))
 have hcg := hgw2.cell (j := 0) rfl
 have hgn : gw ≠ g ∧ v2.ownBlock ≠ some gw := ⟨HNE.out.2.2.1, fun e => by rcases HO2.out gw e with h | h; exact HNE.out.2.2.2 h; have := HGW.out.lt; omega⟩
 have hfc := hbc2.cell (j := 2) rfl
 have ls := wlistA_pos (tw := tw) (tb := 83) w2 g v2 (l ++ encIs [nx] ++ lwG TrT.bytes T) lg (wb || decide (1024 < T.length)) gw (.slice a2 n2 c2) P HP2.out hgw2 hgn (fun w9 hk => HX2.out w9 (kept_next HK2.out HO2.out hk)) HR2.out (by have h1 := HL2.out; omega)
 clear hgw2 hbc2 hgn
 go_wp2_with fail
 refine ls.mono ?_
 clear ls hcg hfc
 rintro e w3 ⟨rfl, hp9⟩
 obtain ⟨v3, hp8, hk8, ho8⟩ := hp9
 have HK3 := Lh (kept_next HK2.out HO2.out hk8)
 have HO3 : Hid (∀ k, v3.ownBlock = some k → v.ownBlock = some k ∨ W0.heap.size ≤ k) := fun k e => by
  rcases ho8 k e with h | h
  ·
   exact HO2.out k h
  ·
   exact .inr (Nat.le_trans HK2.out.size h)
 have HP3 := Lh hp8
 have HL3 : Hid ((l ++ encIs [nx] ++ lwG TrT.bytes T ++ lwG PoT.bytes P).length ≤ 32100000) := by
  show _ ≤ _
  rw [List.length_append]
  have h1 := HL2.out
  have h2 := lwG_length PoT.bytes 200 P (fun x hx => PoT.blen x (HR2.out x hx))
  omega
 clear hp8 hk8 ho8
 go_wp2_with fail
 go_end0
 refine ⟨rfl, PWPost.pre HBX.out ?_⟩
 have hf : PWPost tw [.bool (wb || decide (1024 < T.length) || decide (1024 < P.length))] W0 g v (l ++ encIs [nx] ++ lwG TrT.bytes T ++ lwG PoT.bytes P) lg w3 := ⟨v3, HP3.out, HK3.out, HO3.out⟩
 have e1 : l ++ encIs [nx] ++ lwG TrT.bytes T ++ lwG PoT.bytes P = l ++ bookB nx T P := by unfold bookB; simp only [List.append_assoc]
 have e2 : (wb || decide (1024 < T.length) || decide (1024 < P.length)) = (wb || bookW T P) := by unfold bookW; simp only [Bool.or_assoc]
 rw [e1, e2] at hf
 exact hf
theorem wroll_any_tsz : (Tryz.prog.info? 28).map (·.size) = some 3 := by kernel_rfl
theorem wbook_any_tsz : (Tryz.prog.info? 32).map (·.size) = some 3 := by kernel_rfl
theorem rollB_len (M : List MbT) (I : List InT) (A : List AsT) (h1 : ∀ x ∈ M, okI x.ints) (h2 : ∀ x ∈ I, okI x.ints) (h3 : ∀ x ∈ A, okI x.ints) : (rollB M I A).length ≤ 650000 := by
 have k1 := lwG_length MbT.bytes 200 M (fun x hx => MbT.blen x (h1 x hx))
 have k2 := lwG_length InT.bytes 200 I (fun x hx => InT.blen x (h2 x hx))
 have k3 := lwG_length AsT.bytes 200 A (fun x hx => AsT.blen x (h3 x hx))
 unfold rollB
 rw [List.length_append, List.length_append]
 omega
theorem bookB_len (n : Int) (T : List TrT) (P : List PoT) (h0 : okI [n]) (h1 : ∀ x ∈ T, okI x.ints) (h2 : ∀ x ∈ P, okI x.ints) : (bookB n T P).length ≤ 450000 := by
 have k0 := encIs_length [n] h0
 have k1 := lwG_length TrT.bytes 200 T (fun x hx => TrT.blen x (h1 x hx))
 have k2 := lwG_length PoT.bytes 200 P (fun x hx => PoT.blen x (h2 x hx))
 unfold bookB
 rw [List.length_append, List.length_append]
 rw [show ([n] : List Int).length = 1 from rfl] at k0
 omega
structure StT where
 now : Int
 day : Int
 ph : Int
 M : List MbT
 I : List InT
 A : List AsT
 nx : Int
 T : List TrT
 P : List PoT
 la : Int
 B : List BaT
 G : List PlT
 C : List CaT
 D : List BiT
 S : List SeT
def StT.bytes (s : StT) : List UInt8 := encIs [s.now, s.day, s.ph] ++ (rollB s.M s.I s.A ++ (bookB s.nx s.T s.P ++ (encIs [s.la] ++ (lwG BaT.bytes s.B ++ (lwG PlT.bytes s.G ++ (lwG CaT.bytes s.C ++ (lwG BiT.bytes s.D ++ lwG SeT.bytes s.S)))))))
def StT.bad (s : StT) : Bool := rollW s.M s.I s.A || (bookW s.T s.P || (decide (1024 < s.B.length) || (decide (1024 < s.G.length) || (decide (1024 < s.C.length) || (decide (1024 < s.D.length) || seaB s.S)))))
structure StT.ok (s : StT) : Prop where
 clock : okI [s.now, s.day, s.ph]
 M : ∀ x ∈ s.M, okI x.ints
 I : ∀ x ∈ s.I, okI x.ints
 A : ∀ x ∈ s.A, okI x.ints
 nx : okI [s.nx]
 T : ∀ x ∈ s.T, okI x.ints
 P : ∀ x ∈ s.P, okI x.ints
 la : okI [s.la]
 B : ∀ x ∈ s.B, okI x.ints
 G : ∀ x ∈ s.G, okI x.ints
 C : ∀ x ∈ s.C, okI x.ints
 D : ∀ x ∈ s.D, okI x.ints
 S : ∀ x ∈ s.S, x.ok
def StC (w : World) (a1 : Option Addr) (n1 c1 : Nat) (a2 : Option Addr) (n2 c2 : Nat) (a3 : Option Addr) (n3 c3 : Nat) (a4 : Option Addr) (n4 c4 : Nat) (a5 : Option Addr) (n5 c5 : Nat) (a6 : Option Addr) (n6 c6 : Nat) (a7 : Option Addr) (n7 c7 : Nat) (a8 : Option Addr) (n8 c8 : Nat) (a9 : Option Addr) (n9 c9 : Nat) (a10 : Option Addr) (n10 c10 : Nat) (L : List SV) (s : StT) : Prop := Rs MbT.vs 3 w (.slice a1 n1 c1) s.M ∧ Rs InT.vs 12 w (.slice a2 n2 c2) s.I ∧ Rs AsT.vs 4 w (.slice a3 n3 c3) s.A ∧ Rs TrT.vs 7 w (.slice a4 n4 c4) s.T ∧ Rs PoT.vs 4 w (.slice a5 n5 c5) s.P ∧ Rs BaT.vs 4 w (.slice a6 n6 c6) s.B ∧ Rs PlT.vs 3 w (.slice a7 n7 c7) s.G ∧ Rs CaT.vs 4 w (.slice a8 n8 c8) s.C ∧ Rs BiT.vs 5 w (.slice a9 n9 c9) s.D ∧ Rs SV.vs 7 w (.slice a10 n10 c10) L ∧ L.length = s.S.length ∧ ∀ i (h : i < L.length) (h' : i < s.S.length), SVok w L[i] s.S[i]
theorem wstate_any (w : World) (g : Nat) (v : Value) (l : List UInt8) (lg wb : Bool) (now day ph nx la : Int) (a1 : Option Addr) (n1 c1 : Nat) (a2 : Option Addr) (n2 c2 : Nat) (a3 : Option Addr) (n3 c3 : Nat) (a4 : Option Addr) (n4 c4 : Nat) (a5 : Option Addr) (n5 c5 : Nat) (a6 : Option Addr) (n6 c6 : Nat) (a7 : Option Addr) (n7 c7 : Nat) (a8 : Option Addr) (n8 c8 : Nat) (a9 : Option Addr) (n9 c9 : Nat) (a10 : Option Addr) (n10 c10 : Nat) (M : List MbT) (I : List InT) (A : List AsT) (T : List TrT) (P : List PoT) (B : List BaT) (G : List PlT) (C : List CaT) (D : List BiT) (S : List SeT) (SVS : List SV) (hp : PW tw [.bool wb] w g v l lg) (hlen : l.length ≤ 20000000) (hz1 : okI [now, day, ph]) (hz2 : okI [nx]) (hz3 : okI [la]) (hx1 : ∀ w9, Kept (fun k => k = g ∨ v.ownBlock = some k) w w9 → Rs MbT.vs 3 w9 (.slice a1 n1 c1) M) (hr1 : ∀ x ∈ M, okI x.ints) (hx2 : ∀ w9, Kept (fun k => k = g ∨ v.ownBlock = some k) w w9 → Rs InT.vs 12 w9 (.slice a2 n2 c2) I) (hr2 : ∀ x ∈ I, okI x.ints) (hx3 : ∀ w9, Kept (fun k => k = g ∨ v.ownBlock = some k) w w9 → Rs AsT.vs 4 w9 (.slice a3 n3 c3) A) (hr3 : ∀ x ∈ A, okI x.ints) (hx4 : ∀ w9, Kept (fun k => k = g ∨ v.ownBlock = some k) w w9 → Rs TrT.vs 7 w9 (.slice a4 n4 c4) T) (hr4 : ∀ x ∈ T, okI x.ints) (hx5 : ∀ w9, Kept (fun k => k = g ∨ v.ownBlock = some k) w w9 → Rs PoT.vs 4 w9 (.slice a5 n5 c5) P) (hr5 : ∀ x ∈ P, okI x.ints) (hx6 : ∀ w9, Kept (fun k => k = g ∨ v.ownBlock = some k) w w9 → Rs BaT.vs 4 w9 (.slice a6 n6 c6) B) (hr6 : ∀ x ∈ B, okI x.ints) (hx7 : ∀ w9, Kept (fun k => k = g ∨ v.ownBlock = some k) w w9 → Rs PlT.vs 3 w9 (.slice a7 n7 c7) G) (hr7 : ∀ x ∈ G, okI x.ints) (hx8 : ∀ w9, Kept (fun k => k = g ∨ v.ownBlock = some k) w w9 → Rs CaT.vs 4 w9 (.slice a8 n8 c8) C) (hr8 : ∀ x ∈ C, okI x.ints) (hx9 : ∀ w9, Kept (fun k => k = g ∨ v.ownBlock = some k) w w9 → Rs BiT.vs 5 w9 (.slice a9 n9 c9) D) (hr9 : ∀ x ∈ D, okI x.ints) (hx10 : ∀ w9, Kept (fun k => k = g ∨ v.ownBlock = some k) w w9 → Rs SV.vs 7 w9 (.slice a10 n10 c10) SVS ∧ ∀ i (h : i < SVS.length) (h' : i < S.length), SVok w9 SVS[i] S[i]) (hr10 : ∀ x ∈ S, x.ok) (hlm : SVS.length = S.length) (hsl : (encG SeT.bytes S).length ≤ 50000000) :
  Calls Tryz.prog 23 #[.pointer (some ⟨g, 0, none⟩), .agg #[now, day, ph, .slice a1 n1 c1, .slice a2 n2 c2, .slice a3 n3 c3, nx, .slice a4 n4 c4, .slice a5 n5 c5, la, .slice a6 n6 c6, .slice a7 n7 c7, .slice a8 n8 c8, .slice a9 n9 c9, .slice a10 n10 c10]] w fun e w' => e = .returned (.tuple #[]) ∧ PWPost tw [.bool (wb || (⟨now, day, ph, M, I, A, nx, T, P, la, B, G, C, D, S⟩ : StT).bad)] w g v (l ++ (⟨now, day, ph, M, I, A, nx, T, P, la, B, G, C, D, S⟩ : StT).bytes) lg w' := by
 have hb1 : Below w.heap.size w (w.alloc (.cells #[.pointer (some ⟨g, 0, none⟩)] 83)) := Bn
 have hb2 : Below w.heap.size w ((w.alloc (.cells #[.pointer (some ⟨g, 0, none⟩)] 83)).alloc (.cells #[now, day, ph, .slice a1 n1 c1, .slice a2 n2 c2, .slice a3 n3 c3, nx, .slice a4 n4 c4, .slice a5 n5 c5, la, .slice a6 n6 c6, .slice a7 n7 c7, .slice a8 n8 c8, .slice a9 n9 c9, .slice a10 n10 c10] 41)) := hb1.alloc hb1.size _
 have hgw : HT ((w.alloc (.cells #[.pointer (some ⟨g, 0, none⟩)] 83)).alloc (.cells #[now, day, ph, .slice a1 n1 c1, .slice a2 n2 c2, .slice a3 n3 c3, nx, .slice a4 n4 c4, .slice a5 n5 c5, la, .slice a6 n6 c6, .slice a7 n7 c7, .slice a8 n8 c8, .slice a9 n9 c9, .slice a10 n10 c10] 41)) w.heap.size 83 [.pointer (some ⟨g, 0, none⟩)] := (HT.new (w := w)).below (Bn)
 have hbc : HT ((w.alloc (.cells #[.pointer (some ⟨g, 0, none⟩)] 83)).alloc (.cells #[now, day, ph, .slice a1 n1 c1, .slice a2 n2 c2, .slice a3 n3 c3, nx, .slice a4 n4 c4, .slice a5 n5 c5, la, .slice a6 n6 c6, .slice a7 n7 c7, .slice a8 n8 c8, .slice a9 n9 c9, .slice a10 n10 c10] 41)) (w.heap.size + 1) 41 [now, day, ph, .slice a1 n1 c1, .slice a2 n2 c2, .slice a3 n3 c3, nx, .slice a4 n4 c4, .slice a5 n5 c5, la, .slice a6 n6 c6, .slice a7 n7 c7, .slice a8 n8 c8, .slice a9 n9 c9, .slice a10 n10 c10] := by
  have := HT.new (w := w.alloc (.cells #[.pointer (some ⟨g, 0, none⟩)] 83)) (t := 41) (C := [.int .i64 now, .int .i64 day, .int .i64 ph, .slice a1 n1 c1, .slice a2 n2 c2, .slice a3 n3 c3, .int .i64 nx, .slice a4 n4 c4, .slice a5 n5 c5, .int .i64 la, .slice a6 n6 c6, .slice a7 n7 c7, .slice a8 n8 c8, .slice a9 n9 c9, .slice a10 n10 c10])
  rw [show (w.alloc (.cells #[.pointer (some ⟨g, 0, none⟩)] 83)).heap.size = w.heap.size + 1 by simp] at this
  exact this
 have hlt := hp.lt
 have hrow : ∀ k, v.ownBlock = some k → k < w.heap.size := fun k e => (hp.row k e).2
 have HP0 := Lh (hp.below hb2)
 have HGW := Lh hgw
 have HBC := Lh hbc
 have HBX := Lh hb2
 have HX1 : Hid _ := fun w9 (hk : Kept (fun k => k = g ∨ v.ownBlock = some k) ((w.alloc (.cells #[.pointer (some ⟨g, 0, none⟩)] 83)).alloc (.cells #[now, day, ph, .slice a1 n1 c1, .slice a2 n2 c2, .slice a3 n3 c3, nx, .slice a4 n4 c4, .slice a5 n5 c5, la, .slice a6 n6 c6, .slice a7 n7 c7, .slice a8 n8 c8, .slice a9 n9 c9, .slice a10 n10 c10] 41)) w9) => hx1 w9 (((Kept.of_below hb2).weaken (fun _ h => h.elim)).trans hk (fun _ _ h => h))
 have HR1 := Lh hr1
 have HX2 : Hid _ := fun w9 (hk : Kept (fun k => k = g ∨ v.ownBlock = some k) ((w.alloc (.cells #[.pointer (some ⟨g, 0, none⟩)] 83)).alloc (.cells #[now, day, ph, .slice a1 n1 c1, .slice a2 n2 c2, .slice a3 n3 c3, nx, .slice a4 n4 c4, .slice a5 n5 c5, la, .slice a6 n6 c6, .slice a7 n7 c7, .slice a8 n8 c8, .slice a9 n9 c9, .slice a10 n10 c10] 41)) w9) => hx2 w9 (((Kept.of_below hb2).weaken (fun _ h => h.elim)).trans hk (fun _ _ h => h))
 have HR2 := Lh hr2
 have HX3 : Hid _ := fun w9 (hk : Kept (fun k => k = g ∨ v.ownBlock = some k) ((w.alloc (.cells #[.pointer (some ⟨g, 0, none⟩)] 83)).alloc (.cells #[now, day, ph, .slice a1 n1 c1, .slice a2 n2 c2, .slice a3 n3 c3, nx, .slice a4 n4 c4, .slice a5 n5 c5, la, .slice a6 n6 c6, .slice a7 n7 c7, .slice a8 n8 c8, .slice a9 n9 c9, .slice a10 n10 c10] 41)) w9) => hx3 w9 (((Kept.of_below hb2).weaken (fun _ h => h.elim)).trans hk (fun _ _ h => h))
 have HR3 := Lh hr3
 have HX4 : Hid _ := fun w9 (hk : Kept (fun k => k = g ∨ v.ownBlock = some k) ((w.alloc (.cells #[.pointer (some ⟨g, 0, none⟩)] 83)).alloc (.cells #[now, day, ph, .slice a1 n1 c1, .slice a2 n2 c2, .slice a3 n3 c3, nx, .slice a4 n4 c4, .slice a5 n5 c5, la, .slice a6 n6 c6, .slice a7 n7 c7, .slice a8 n8 c8, .slice a9 n9 c9, .slice a10 n10 c10] 41)) w9) => hx4 w9 (((Kept.of_below hb2).weaken (fun _ h => h.elim)).trans hk (fun _ _ h => h))
 have HR4 := Lh hr4
 have HX5 : Hid _ := fun w9 (hk : Kept (fun k => k = g ∨ v.ownBlock = some k) ((w.alloc (.cells #[.pointer (some ⟨g, 0, none⟩)] 83)).alloc (.cells #[now, day, ph, .slice a1 n1 c1, .slice a2 n2 c2, .slice a3 n3 c3, nx, .slice a4 n4 c4, .slice a5 n5 c5, la, .slice a6 n6 c6, .slice a7 n7 c7, .slice a8 n8 c8, .slice a9 n9 c9, .slice a10 n10 c10] 41)) w9) => hx5 w9 (((Kept.of_below hb2).weaken (fun _ h => h.elim)).trans hk (fun _ _ h => h))
 have HR5 := Lh hr5
 have HX6 : Hid _ := fun w9 (hk : Kept (fun k => k = g ∨ v.ownBlock = some k) ((w.alloc (.cells #[.pointer (some ⟨g, 0, none⟩)] 83)).alloc (.cells #[now, day, ph, .slice a1 n1 c1, .slice a2 n2 c2, .slice a3 n3 c3, nx, .slice a4 n4 c4, .slice a5 n5 c5, la, .slice a6 n6 c6, .slice a7 n7 c7, .slice a8 n8 c8, .slice a9 n9 c9, .slice a10 n10 c10] 41)) w9) => hx6 w9 (((Kept.of_below hb2).weaken (fun _ h => h.elim)).trans hk (fun _ _ h => h))
 have HR6 := Lh hr6
 have HX7 : Hid _ := fun w9 (hk : Kept (fun k => k = g ∨ v.ownBlock = some k) ((w.alloc (.cells #[.pointer (some ⟨g, 0, none⟩)] 83)).alloc (.cells #[now, day, ph, .slice a1 n1 c1, .slice a2 n2 c2, .slice a3 n3 c3, nx, .slice a4 n4 c4, .slice a5 n5 c5, la, .slice a6 n6 c6, .slice a7 n7 c7, .slice a8 n8 c8, .slice a9 n9 c9, .slice a10 n10 c10] 41)) w9) => hx7 w9 (((Kept.of_below hb2).weaken (fun _ h => h.elim)).trans hk (fun _ _ h => h))
 have HR7 := Lh hr7
 have HX8 : Hid _ := fun w9 (hk : Kept (fun k => k = g ∨ v.ownBlock = some k) ((w.alloc (.cells #[.pointer (some ⟨g, 0, none⟩)] 83)).alloc (.cells #[now, day, ph, .slice a1 n1 c1, .slice a2 n2 c2, .slice a3 n3 c3, nx, .slice a4 n4 c4, .slice a5 n5 c5, la, .slice a6 n6 c6, .slice a7 n7 c7, .slice a8 n8 c8, .slice a9 n9 c9, .slice a10 n10 c10] 41)) w9) => hx8 w9 (((Kept.of_below hb2).weaken (fun _ h => h.elim)).trans hk (fun _ _ h => h))
 have HR8 := Lh hr8
 have HX9 : Hid _ := fun w9 (hk : Kept (fun k => k = g ∨ v.ownBlock = some k) ((w.alloc (.cells #[.pointer (some ⟨g, 0, none⟩)] 83)).alloc (.cells #[now, day, ph, .slice a1 n1 c1, .slice a2 n2 c2, .slice a3 n3 c3, nx, .slice a4 n4 c4, .slice a5 n5 c5, la, .slice a6 n6 c6, .slice a7 n7 c7, .slice a8 n8 c8, .slice a9 n9 c9, .slice a10 n10 c10] 41)) w9) => hx9 w9 (((Kept.of_below hb2).weaken (fun _ h => h.elim)).trans hk (fun _ _ h => h))
 have HR9 := Lh hr9
 have HX10 : Hid _ := fun w9 (hk : Kept (fun k => k = g ∨ v.ownBlock = some k) ((w.alloc (.cells #[.pointer (some ⟨g, 0, none⟩)] 83)).alloc (.cells #[now, day, ph, .slice a1 n1 c1, .slice a2 n2 c2, .slice a3 n3 c3, nx, .slice a4 n4 c4, .slice a5 n5 c5, la, .slice a6 n6 c6, .slice a7 n7 c7, .slice a8 n8 c8, .slice a9 n9 c9, .slice a10 n10 c10] 41)) w9) => hx10 w9 (((Kept.of_below hb2).weaken (fun _ h => h.elim)).trans hk (fun _ _ h => h))
 have HR10 := Lh hr10
 clear hx1 hr1 hx2 hr2 hx3 hr3 hx4 hr4 hx5 hr5 hx6 hr6 hx7 hr7 hx8 hr8 hx9 hr9 hx10 hr10
 have HZ := Lh (⟨hz1, hz2, hz3⟩ : _ ∧ _ ∧ _)
 have HLM := Lh hlm
 have HSL := Lh hsl
 clear hz1 hz2 hz3 hlm hsl
 have HLEN := Lh hlen
 have HNE : Hid (w.heap.size + 1 ≠ g ∧ v.ownBlock ≠ some (w.heap.size + 1) ∧ w.heap.size ≠ g ∧ v.ownBlock ≠ some w.heap.size) := ⟨by omega, fun e => by have := hrow _ e; omega, by omega, fun e => by have := hrow _ e; omega⟩
 clear hb1 hb2 hgw hbc hlt hrow hp hlen
 go_in
 go_wp2_with fail
 generalize hW : ((w.alloc (.cells #[.pointer (some ⟨g, 0, none⟩)] 83)).alloc (.cells #[now, day, ph, .slice a1 n1 c1, .slice a2 n2 c2, .slice a3 n3 c3, nx, .slice a4 n4 c4, .slice a5 n5 c5, la, .slice a6 n6 c6, .slice a7 n7 c7, .slice a8 n8 c8, .slice a9 n9 c9, .slice a10 n10 c10] 41)) = W0 at *
 clear hW
 generalize hgc : w.heap.size + 1 = gc at *
 generalize hgq : w.heap.size = gw at *
 have HBX := Lh (show Below w.heap.size w W0 by rw [hgq]; exact HBX.out)
 clear hgc hgq
 have HK0 : Hid (Kept (fun k => k = g ∨ v.ownBlock = some k) W0 W0) := Kept.refl _ _
 have HO0 : Hid (∀ k, v.ownBlock = some k → v.ownBlock = some k ∨ W0.heap.size ≤ k) := fun k h => .inl h
 have HL0 : Hid (l.length ≤ 20000000) := HLEN.out
 have hgw0 := HGW.out.keptH HK0.out (fun e => e.elim (fun e => HNE.out.2.2.1 e) (fun e => HNE.out.2.2.2 e))
 have hbc0 := HBC.out.keptH HK0.out (fun e => e.elim (fun e => HNE.out.1 e) (fun e => HNE.out.2.1 e))
 have HGWX := Lh hgw0
 have HBCX := Lh hbc0
 clear hgw0 hbc0
 refine wp_region_bl 13 (by kernel_rfl) ?_
 refine uL 0 (some 4) (.pointer (some ⟨g, 0, none⟩)) (BL.cls W0) (fun w hSw => BL.cell hSw (HGWX.out.cell (j := 0) rfl)) ?_
 refine uP 4 [(1, some 5, .pointer (some ⟨g, 0, none⟩)), (2, some 6, .pointer (some ⟨g, 0, none⟩)), (3, some 7, .pointer (some ⟨gc, 0, none⟩)), (4, some 8, .pointer (some ⟨gc, 0, none⟩))] (BL.cls W0) ?_
 refine uL 5 (some 9) (.int .i64 now) (BL.cls W0) (fun w hSw => BL.cell hSw (HBCX.out.cell (j := 0) rfl)) ?_
 simp only [zq]
 refine uP 2 [(6, some 10, .pointer (some ⟨gc, 0, none⟩)), (7, some 11, .pointer (some ⟨gc, 1, none⟩))] (BL.cls W0) ?_
 refine uL 8 (some 12) (.int .i64 day) (BL.cls W0) (fun w hSw => BL.cell hSw (HBCX.out.cell (j := 1) rfl)) ?_
 refine uP 2 [(9, some 13, .pointer (some ⟨gc, 0, none⟩)), (10, some 14, .pointer (some ⟨gc, 2, none⟩))] (BL.cls W0) ?_
 simp only [zq]
 refine uL 11 (some 15) (.int .i64 ph) (BL.cls W0) (fun w hSw => BL.cell hSw (HBCX.out.cell (j := 2) rfl)) ?_
 simp only [zq]
 refine uS 12 rfl (fun wA12 hA12 K hK => ?_)
 go_simp
 refine hK.out _ _ (BL (wA12.alloc (.cells #[now, day, ph] 3))) (BL.cls' (hA12.alloc (Below.size hA12) _)) (Below.refl _ _) ?_
 clear hK K
 try simp only [zq]
 refine uZ rfl (fun wZ hb1 K hK => ?_)
 go_simp
 have hbl : Below W0.heap.size W0 wZ := (Below.alloc hA12 hA12.size (.cells #[now, day, ph] 3)).trans (hb1.mono (by simp; exact Nat.le_succ_of_le hA12.size))
 have hp1 := HP0.out.below hbl
 have his : Is (wA12.alloc (.cells #[now, day, ph] 3)) (.slice (some ⟨wA12.heap.size, 0, none⟩) 3 3) [now, day, ph] := Is.block (l := [now, day, ph]) (heap_new rfl) (Nat.le_refl _) (by simp [maxLen])
 have his1 := his.mono hb1
 refine (WInt_any wZ g v (l) lg _ _ hp1 his1 (fun w2 hk => his1.kept1 hk (fun _ k hi e => ?_)) HZ.out.1 (by have := HL0.out; rw [show ([now, day, ph] : List Int).length = 3 from rfl]; omega)).mono ?_
 ·
  obtain ⟨ad, n, c, hv, rfl⟩ := hi
  injection hv with h5
  injection h5 with h5
  subst h5
  have h6 := hA12.size
  rcases e with e | e'
  ·
   have := HP0.out.lt
   simp only at e
   omega
  ·
   have := (HP0.out.row _ e').2
   simp only at this
   omega
 rintro e w1 ⟨rfl, hpo⟩
 have HPO := Lh (hpo.pre hbl)
 clear hbl hp1 his his1 hpo hb1
 refine hK.out _ _ ?_
 clear hK K
 try simp only [zq]
 obtain ⟨v1, hp8, hk8, ho8⟩ := HPO.out
 have HK1 := Lh (kept_next HK0.out HO0.out hk8)
 have HO1 : Hid (∀ k, v1.ownBlock = some k → v.ownBlock = some k ∨ W0.heap.size ≤ k) := fun k e => by
  rcases ho8 k e with h | h
  ·
   exact HO0.out k h
  ·
   exact .inr (Nat.le_trans HK0.out.size h)
 have HP1 := Lh hp8
 have HL1 : Hid ((l ++ encIs [now, day, ph]).length ≤ 20700000) := by
  show _ ≤ _
  rw [List.length_append]
  have h1 := HL0.out
  have h2 := encIs_length [now, day, ph] HZ.out.1
  rw [show ([now, day, ph] : List Int).length = 3 from rfl] at h2
  omega
 clear hp8 hk8 ho8
 clear HPO
 have hgw1 := HGW.out.keptH HK1.out (fun e => e.elim (fun e => HNE.out.2.2.1 e) (fun e => HNE.out.2.2.2 e))
 have hbc1 := HBC.out.keptH HK1.out (fun e => e.elim (fun e => HNE.out.1 e) (fun e => HNE.out.2.1 e))
 have hcg := hgw1.cell (j := 0) rfl
 have hgn : gw ≠ g ∧ v1.ownBlock ≠ some gw := ⟨HNE.out.2.2.1, fun e => by rcases HO1.out gw e with h | h; exact HNE.out.2.2.2 h; have := HGW.out.lt; omega⟩
 have hrg : World.rangeAt w1 gc 3 [.slice a1 n1 c1, .slice a2 n2 c2, .slice a3 n3 c3] := fun j u hu => by
  refine hbc1.cell ?_
  rcases j with _ | _ | _ | j
  ·
   exact hu
  ·
   exact hu
  ·
   exact hu
  ·
   simp at hu
 have HRG := Lh hrg
 have ls := wroll_any w1 g v1 (l ++ encIs [now, day, ph]) lg (wb) a1 n1 c1 a2 n2 c2 a3 n3 c3 M I A HP1.out (fun w9 hk => HX1.out w9 (kept_next HK1.out HO1.out hk)) HR1.out (fun w9 hk => HX2.out w9 (kept_next HK1.out HO1.out hk)) HR2.out (fun w9 hk => HX3.out w9 (kept_next HK1.out HO1.out hk)) HR3.out (by have h1 := HL1.out; omega)
 clear hgw1 hbc1 hgn hrg
 go_wp2_with (first
  | (refine wpList_load_mid rfl 28 (.tmp 19) rfl gc 3 rfl [.slice a1 n1 c1, .slice a2 n2 c2, .slice a3 n3 c3] _ HRG.out Tryz.underlying28 rfl (by rw [wroll_any_tsz]; rfl) ?_)
  | fail)
 refine ls.mono ?_
 clear ls hcg
 rintro e w2 ⟨rfl, hp9⟩
 obtain ⟨v2, hp8, hk8, ho8⟩ := hp9
 have HK2 := Lh (kept_next HK1.out HO1.out hk8)
 have HO2 : Hid (∀ k, v2.ownBlock = some k → v.ownBlock = some k ∨ W0.heap.size ≤ k) := fun k e => by
  rcases ho8 k e with h | h
  ·
   exact HO1.out k h
  ·
   exact .inr (Nat.le_trans HK1.out.size h)
 have HP2 := Lh hp8
 have HL2 : Hid ((l ++ encIs [now, day, ph] ++ rollB M I A).length ≤ 21400000) := by
  show _ ≤ _
  rw [List.length_append]
  have h1 := HL1.out
  have h2 := rollB_len M I A HR1.out HR2.out HR3.out
  omega
 clear hp8 hk8 ho8
 have hgw2 := HGW.out.keptH HK2.out (fun e => e.elim (fun e => HNE.out.2.2.1 e) (fun e => HNE.out.2.2.2 e))
 have hbc2 := HBC.out.keptH HK2.out (fun e => e.elim (fun e => HNE.out.1 e) (fun e => HNE.out.2.1 e))
 have hcg := hgw2.cell (j := 0) rfl
 have hgn : gw ≠ g ∧ v2.ownBlock ≠ some gw := ⟨HNE.out.2.2.1, fun e => by rcases HO2.out gw e with h | h; exact HNE.out.2.2.2 h; have := HGW.out.lt; omega⟩
 have hrg : World.rangeAt w2 gc 6 [nx, .slice a4 n4 c4, .slice a5 n5 c5] := fun j u hu => by
  refine hbc2.cell ?_
  rcases j with _ | _ | _ | j
  ·
   exact hu
  ·
   exact hu
  ·
   exact hu
  ·
   simp at hu
 have HRG := Lh hrg
 have ls := wbook_any w2 g v2 (l ++ encIs [now, day, ph] ++ rollB M I A) lg (wb || rollW M I A) nx a4 n4 c4 a5 n5 c5 T P HP2.out HZ.out.2.1 (fun w9 hk => HX4.out w9 (kept_next HK2.out HO2.out hk)) HR4.out (fun w9 hk => HX5.out w9 (kept_next HK2.out HO2.out hk)) HR5.out (by have h1 := HL2.out; omega)
 clear hgw2 hbc2 hgn hrg
 go_wp2_with (first
  | (refine wpList_load_mid rfl 32 (.tmp 23) rfl gc 6 rfl [nx, .slice a4 n4 c4, .slice a5 n5 c5] _ HRG.out Tryz.underlying32 rfl (by rw [wbook_any_tsz]; rfl) ?_)
  | fail)
 refine ls.mono ?_
 clear ls hcg
 rintro e w3 ⟨rfl, hp9⟩
 obtain ⟨v3, hp8, hk8, ho8⟩ := hp9
 have HK3 := Lh (kept_next HK2.out HO2.out hk8)
 have HO3 : Hid (∀ k, v3.ownBlock = some k → v.ownBlock = some k ∨ W0.heap.size ≤ k) := fun k e => by
  rcases ho8 k e with h | h
  ·
   exact HO2.out k h
  ·
   exact .inr (Nat.le_trans HK2.out.size h)
 have HP3 := Lh hp8
 have HL3 : Hid ((l ++ encIs [now, day, ph] ++ rollB M I A ++ bookB nx T P).length ≤ 22100000) := by
  show _ ≤ _
  rw [List.length_append]
  have h1 := HL2.out
  have h2 := bookB_len nx T P HZ.out.2.1 HR4.out HR5.out
  omega
 clear hp8 hk8 ho8
 have hgw3 := HGW.out.keptH HK3.out (fun e => e.elim (fun e => HNE.out.2.2.1 e) (fun e => HNE.out.2.2.2 e))
 have hbc3 := HBC.out.keptH HK3.out (fun e => e.elim (fun e => HNE.out.1 e) (fun e => HNE.out.2.1 e))
 have HGWX := Lh hgw3
 have HBCX := Lh hbc3
 clear hgw3 hbc3
 go_wp2_with fail
 refine wp_region_bl 7 (by kernel_rfl) ?_
 refine uL 0 (some 26) (.pointer (some ⟨g, 0, none⟩)) (BL.cls w3) (fun w hSw => BL.cell hSw (HGWX.out.cell (j := 0) rfl)) ?_
 refine uP 4 [(1, some 27, .pointer (some ⟨g, 0, none⟩)), (2, some 28, .pointer (some ⟨g, 0, none⟩)), (3, some 29, .pointer (some ⟨gc, 9, none⟩)), (4, some 30, .pointer (some ⟨gc, 9, none⟩))] (BL.cls w3) ?_
 refine uL 5 (some 31) (.int .i64 la) (BL.cls w3) (fun w hSw => BL.cell hSw (HBCX.out.cell (j := 9) rfl)) ?_
 simp only [zq]
 refine uS 6 rfl (fun wA6 hA6 K hK => ?_)
 go_simp
 refine hK.out _ _ (BL (wA6.alloc (.cells #[la] 3))) (BL.cls' (hA6.alloc (Below.size hA6) _)) (Below.refl _ _) ?_
 clear hK K
 try simp only [zq]
 refine uZ rfl (fun wZ hb1 K hK => ?_)
 go_simp
 have hbl : Below w3.heap.size w3 wZ := (Below.alloc hA6 hA6.size (.cells #[la] 3)).trans (hb1.mono (by simp; exact Nat.le_succ_of_le hA6.size))
 have hp1 := HP3.out.below hbl
 have his : Is (wA6.alloc (.cells #[la] 3)) (.slice (some ⟨wA6.heap.size, 0, none⟩) 1 1) [la] := Is.block (l := [la]) (heap_new rfl) (Nat.le_refl _) (by simp [maxLen])
 have his1 := his.mono hb1
 refine (WInt_any wZ g v3 (l ++ encIs [now, day, ph] ++ rollB M I A ++ bookB nx T P) lg _ _ hp1 his1 (fun w2 hk => his1.kept1 hk (fun _ k hi e => ?_)) HZ.out.2.2 (by have := HL3.out; rw [show ([la] : List Int).length = 1 from rfl]; omega)).mono ?_
 ·
  obtain ⟨ad, n, c, hv, rfl⟩ := hi
  injection hv with h5
  injection h5 with h5
  subst h5
  have h6 := hA6.size
  rcases e with e | e'
  ·
   have := HP3.out.lt
   simp only at e
   omega
  ·
   have := (HP3.out.row _ e').2
   simp only at this
   omega
 rintro e w4 ⟨rfl, hpo⟩
 have HPO := Lh (hpo.pre hbl)
 clear hbl hp1 his his1 hpo hb1
 refine hK.out _ _ ?_
 clear hK K
 try simp only [zq]
 obtain ⟨v4, hp8, hk8, ho8⟩ := HPO.out
 have HK4 := Lh (kept_next HK3.out HO3.out hk8)
 have HO4 : Hid (∀ k, v4.ownBlock = some k → v.ownBlock = some k ∨ W0.heap.size ≤ k) := fun k e => by
  rcases ho8 k e with h | h
  ·
   exact HO3.out k h
  ·
   exact .inr (Nat.le_trans HK3.out.size h)
 have HP4 := Lh hp8
 have HL4 : Hid ((l ++ encIs [now, day, ph] ++ rollB M I A ++ bookB nx T P ++ encIs [la]).length ≤ 22800000) := by
  show _ ≤ _
  rw [List.length_append]
  have h1 := HL3.out
  have h2 := encIs_length [la] HZ.out.2.2
  rw [show ([la] : List Int).length = 1 from rfl] at h2
  omega
 clear hp8 hk8 ho8
 clear HPO
 have hgw4 := HGW.out.keptH HK4.out (fun e => e.elim (fun e => HNE.out.2.2.1 e) (fun e => HNE.out.2.2.2 e))
 have hbc4 := HBC.out.keptH HK4.out (fun e => e.elim (fun e => HNE.out.1 e) (fun e => HNE.out.2.1 e))
 have hcg := hgw4.cell (j := 0) rfl
 have hgn : gw ≠ g ∧ v4.ownBlock ≠ some gw := ⟨HNE.out.2.2.1, fun e => by rcases HO4.out gw e with h | h; exact HNE.out.2.2.2 h; have := HGW.out.lt; omega⟩
 have hfc := hbc4.cell (j := 10) rfl
 have ls := wlistA_bal (tw := tw) (tb := 83) w4 g v4 (l ++ encIs [now, day, ph] ++ rollB M I A ++ bookB nx T P ++ encIs [la]) lg (wb || rollW M I A || bookW T P) gw (.slice a6 n6 c6) B HP4.out hgw4 hgn (fun w9 hk => HX6.out w9 (kept_next HK4.out HO4.out hk)) HR6.out (by have h1 := HL4.out; omega)
 clear hgw4 hbc4 hgn
 go_wp2_with fail
 refine ls.mono ?_
 clear ls hcg hfc
 rintro e w5 ⟨rfl, hp9⟩
 obtain ⟨v5, hp8, hk8, ho8⟩ := hp9
 have HK5 := Lh (kept_next HK4.out HO4.out hk8)
 have HO5 : Hid (∀ k, v5.ownBlock = some k → v.ownBlock = some k ∨ W0.heap.size ≤ k) := fun k e => by
  rcases ho8 k e with h | h
  ·
   exact HO4.out k h
  ·
   exact .inr (Nat.le_trans HK4.out.size h)
 have HP5 := Lh hp8
 have HL5 : Hid ((l ++ encIs [now, day, ph] ++ rollB M I A ++ bookB nx T P ++ encIs [la] ++ lwG BaT.bytes B).length ≤ 23500000) := by
  show _ ≤ _
  rw [List.length_append]
  have h1 := HL4.out
  have h2 := lwG_length BaT.bytes 200 B (fun x hx => BaT.blen x (HR6.out x hx))
  omega
 clear hp8 hk8 ho8
 have hgw5 := HGW.out.keptH HK5.out (fun e => e.elim (fun e => HNE.out.2.2.1 e) (fun e => HNE.out.2.2.2 e))
 have hbc5 := HBC.out.keptH HK5.out (fun e => e.elim (fun e => HNE.out.1 e) (fun e => HNE.out.2.1 e))
 have hcg := hgw5.cell (j := 0) rfl
 have hgn : gw ≠ g ∧ v5.ownBlock ≠ some gw := ⟨HNE.out.2.2.1, fun e => by rcases HO5.out gw e with h | h; exact HNE.out.2.2.2 h; have := HGW.out.lt; omega⟩
 have hfc := hbc5.cell (j := 11) rfl
 have ls := wlistA_ple (tw := tw) (tb := 83) w5 g v5 (l ++ encIs [now, day, ph] ++ rollB M I A ++ bookB nx T P ++ encIs [la] ++ lwG BaT.bytes B) lg (wb || rollW M I A || bookW T P || decide (1024 < B.length)) gw (.slice a7 n7 c7) G HP5.out hgw5 hgn (fun w9 hk => HX7.out w9 (kept_next HK5.out HO5.out hk)) HR7.out (by have h1 := HL5.out; omega)
 clear hgw5 hbc5 hgn
 go_wp2_with fail
 refine ls.mono ?_
 clear ls hcg hfc
 rintro e w6 ⟨rfl, hp9⟩
 obtain ⟨v6, hp8, hk8, ho8⟩ := hp9
 have HK6 := Lh (kept_next HK5.out HO5.out hk8)
 have HO6 : Hid (∀ k, v6.ownBlock = some k → v.ownBlock = some k ∨ W0.heap.size ≤ k) := fun k e => by
  rcases ho8 k e with h | h
  ·
   exact HO5.out k h
  ·
   exact .inr (Nat.le_trans HK5.out.size h)
 have HP6 := Lh hp8
 have HL6 : Hid ((l ++ encIs [now, day, ph] ++ rollB M I A ++ bookB nx T P ++ encIs [la] ++ lwG BaT.bytes B ++ lwG PlT.bytes G).length ≤ 24200000) := by
  show _ ≤ _
  rw [List.length_append]
  have h1 := HL5.out
  have h2 := lwG_length PlT.bytes 200 G (fun x hx => PlT.blen x (HR7.out x hx))
  omega
 clear hp8 hk8 ho8
 have hgw6 := HGW.out.keptH HK6.out (fun e => e.elim (fun e => HNE.out.2.2.1 e) (fun e => HNE.out.2.2.2 e))
 have hbc6 := HBC.out.keptH HK6.out (fun e => e.elim (fun e => HNE.out.1 e) (fun e => HNE.out.2.1 e))
 have hcg := hgw6.cell (j := 0) rfl
 have hgn : gw ≠ g ∧ v6.ownBlock ≠ some gw := ⟨HNE.out.2.2.1, fun e => by rcases HO6.out gw e with h | h; exact HNE.out.2.2.2 h; have := HGW.out.lt; omega⟩
 have hfc := hbc6.cell (j := 12) rfl
 have ls := wlistA_cal (tw := tw) (tb := 83) w6 g v6 (l ++ encIs [now, day, ph] ++ rollB M I A ++ bookB nx T P ++ encIs [la] ++ lwG BaT.bytes B ++ lwG PlT.bytes G) lg (wb || rollW M I A || bookW T P || decide (1024 < B.length) || decide (1024 < G.length)) gw (.slice a8 n8 c8) C HP6.out hgw6 hgn (fun w9 hk => HX8.out w9 (kept_next HK6.out HO6.out hk)) HR8.out (by have h1 := HL6.out; omega)
 clear hgw6 hbc6 hgn
 go_wp2_with fail
 refine ls.mono ?_
 clear ls hcg hfc
 rintro e w7 ⟨rfl, hp9⟩
 obtain ⟨v7, hp8, hk8, ho8⟩ := hp9
 have HK7 := Lh (kept_next HK6.out HO6.out hk8)
 have HO7 : Hid (∀ k, v7.ownBlock = some k → v.ownBlock = some k ∨ W0.heap.size ≤ k) := fun k e => by
  rcases ho8 k e with h | h
  ·
   exact HO6.out k h
  ·
   exact .inr (Nat.le_trans HK6.out.size h)
 have HP7 := Lh hp8
 have HL7 : Hid ((l ++ encIs [now, day, ph] ++ rollB M I A ++ bookB nx T P ++ encIs [la] ++ lwG BaT.bytes B ++ lwG PlT.bytes G ++ lwG CaT.bytes C).length ≤ 24900000) := by
  show _ ≤ _
  rw [List.length_append]
  have h1 := HL6.out
  have h2 := lwG_length CaT.bytes 200 C (fun x hx => CaT.blen x (HR8.out x hx))
  omega
 clear hp8 hk8 ho8
 have hgw7 := HGW.out.keptH HK7.out (fun e => e.elim (fun e => HNE.out.2.2.1 e) (fun e => HNE.out.2.2.2 e))
 have hbc7 := HBC.out.keptH HK7.out (fun e => e.elim (fun e => HNE.out.1 e) (fun e => HNE.out.2.1 e))
 have hcg := hgw7.cell (j := 0) rfl
 have hgn : gw ≠ g ∧ v7.ownBlock ≠ some gw := ⟨HNE.out.2.2.1, fun e => by rcases HO7.out gw e with h | h; exact HNE.out.2.2.2 h; have := HGW.out.lt; omega⟩
 have hfc := hbc7.cell (j := 13) rfl
 have ls := wlistA_bid (tw := tw) (tb := 83) w7 g v7 (l ++ encIs [now, day, ph] ++ rollB M I A ++ bookB nx T P ++ encIs [la] ++ lwG BaT.bytes B ++ lwG PlT.bytes G ++ lwG CaT.bytes C) lg (wb || rollW M I A || bookW T P || decide (1024 < B.length) || decide (1024 < G.length) || decide (1024 < C.length)) gw (.slice a9 n9 c9) D HP7.out hgw7 hgn (fun w9 hk => HX9.out w9 (kept_next HK7.out HO7.out hk)) HR9.out (by have h1 := HL7.out; omega)
 clear hgw7 hbc7 hgn
 go_wp2_with fail
 refine ls.mono ?_
 clear ls hcg hfc
 rintro e w8 ⟨rfl, hp9⟩
 obtain ⟨v8, hp8, hk8, ho8⟩ := hp9
 have HK8 := Lh (kept_next HK7.out HO7.out hk8)
 have HO8 : Hid (∀ k, v8.ownBlock = some k → v.ownBlock = some k ∨ W0.heap.size ≤ k) := fun k e => by
  rcases ho8 k e with h | h
  ·
   exact HO7.out k h
  ·
   exact .inr (Nat.le_trans HK7.out.size h)
 have HP8 := Lh hp8
 have HL8 : Hid ((l ++ encIs [now, day, ph] ++ rollB M I A ++ bookB nx T P ++ encIs [la] ++ lwG BaT.bytes B ++ lwG PlT.bytes G ++ lwG CaT.bytes C ++ lwG BiT.bytes D).length ≤ 25600000) := by
  show _ ≤ _
  rw [List.length_append]
  have h1 := HL7.out
  have h2 := lwG_length BiT.bytes 200 D (fun x hx => BiT.blen x (HR9.out x hx))
  omega
 clear hp8 hk8 ho8
 have hgw8 := HGW.out.keptH HK8.out (fun e => e.elim (fun e => HNE.out.2.2.1 e) (fun e => HNE.out.2.2.2 e))
 have hbc8 := HBC.out.keptH HK8.out (fun e => e.elim (fun e => HNE.out.1 e) (fun e => HNE.out.2.1 e))
 have hcg := hgw8.cell (j := 0) rfl
 have hgn : gw ≠ g ∧ v8.ownBlock ≠ some gw := ⟨HNE.out.2.2.1, fun e => by rcases HO8.out gw e with h | h; exact HNE.out.2.2.2 h; have := HGW.out.lt; omega⟩
 have hfc := hbc8.cell (j := 14) rfl
 have ls := wlistA_sea (tw := tw) (tb := 83) w8 g v8 (l ++ encIs [now, day, ph] ++ rollB M I A ++ bookB nx T P ++ encIs [la] ++ lwG BaT.bytes B ++ lwG PlT.bytes G ++ lwG CaT.bytes C ++ lwG BiT.bytes D) lg (wb || rollW M I A || bookW T P || decide (1024 < B.length) || decide (1024 < G.length) || decide (1024 < C.length) || decide (1024 < D.length)) gw (.slice a10 n10 c10) SVS HP8.out hgw8 hgn S HLM.out (fun w9 hk => HX10.out w9 (kept_next HK8.out HO8.out hk)) HR10.out (by have h1 := HL8.out; have h2 := HSL.out; omega)
 clear hgw8 hbc8 hgn
 go_wp2_with fail
 refine ls.mono ?_
 clear ls hcg hfc
 rintro e w9 ⟨rfl, hp9⟩
 have HFIN := Lh (PWPost.next' HK8.out HO8.out hp9)
 clear hp9
 go_wp2_with fail
 go_end0
 refine ⟨rfl, PWPost.pre HBX.out ?_⟩
 have hf := HFIN.out
 have e1 : l ++ encIs [now, day, ph] ++ rollB M I A ++ bookB nx T P ++ encIs [la] ++ lwG BaT.bytes B ++ lwG PlT.bytes G ++ lwG CaT.bytes C ++ lwG BiT.bytes D ++ lwG SeT.bytes S = l ++ (⟨now, day, ph, M, I, A, nx, T, P, la, B, G, C, D, S⟩ : StT).bytes := by unfold StT.bytes; simp only [List.append_assoc]
 have e2 : (wb || rollW M I A || bookW T P || decide (1024 < B.length) || decide (1024 < G.length) || decide (1024 < C.length) || decide (1024 < D.length) || seaB S) = (wb || (⟨now, day, ph, M, I, A, nx, T, P, la, B, G, C, D, S⟩ : StT).bad) := by unfold StT.bad; simp only [Bool.or_assoc]
 rw [e1, e2] at hf
 exact hf
theorem SVok.mono {w w' : World} {x : SV} {s : SeT} (h : SVok w x s) (hb : Below w.heap.size w w') : SVok w' x s := ⟨h.1, h.2.1, h.2.2.1, h.2.2.2.1, h.2.2.2.2.1, h.2.2.2.2.2.1.mono hb, h.2.2.2.2.2.2.mono hb⟩
theorem lwG_size {α : Type} (b : α → List UInt8) (m : Nat) (L : List α) (h : (encG b L).length ≤ m) : (lwG b L).length ≤ m + 10 := by
 unfold lwG
 split
 ·
  simp
 ·
  have h2 := encIs_length [(L.length : Int)] (by intro n hn; rw [List.mem_singleton] at hn; omega)
  rw [List.length_append]
  simp at h2
  omega
theorem StT.bytes_len (s : StT) (h : s.ok) (hs : (encG SeT.bytes s.S).length ≤ 50000000) : s.bytes.length ≤ 60000000 := by
 have k1 := encIs_length _ h.clock
 have k2 := rollB_len s.M s.I s.A h.M h.I h.A
 have k3 := bookB_len s.nx s.T s.P h.nx h.T h.P
 have k4 := encIs_length _ h.la
 have k5 := lwG_length BaT.bytes 200 s.B (fun x hx => BaT.blen x (h.B x hx))
 have k6 := lwG_length PlT.bytes 200 s.G (fun x hx => PlT.blen x (h.G x hx))
 have k7 := lwG_length CaT.bytes 200 s.C (fun x hx => CaT.blen x (h.C x hx))
 have k8 := lwG_length BiT.bytes 200 s.D (fun x hx => BiT.blen x (h.D x hx))
 have k9 := lwG_size SeT.bytes _ s.S hs
 unfold StT.bytes
 simp only [List.length_append]
 rw [show ([s.now, s.day, s.ph] : List Int).length = 3 from rfl] at k1
 rw [show ([s.la] : List Int).length = 1 from rfl] at k4
 omega
theorem stSz : (Tryz.prog.info? 41).map (·.size) = some 15 := by kernel_rfl
theorem State_any (w : World) (a1 : Option Addr) (n1 c1 : Nat) (a2 : Option Addr) (n2 c2 : Nat) (a3 : Option Addr) (n3 c3 : Nat) (a4 : Option Addr) (n4 c4 : Nat) (a5 : Option Addr) (n5 c5 : Nat) (a6 : Option Addr) (n6 c6 : Nat) (a7 : Option Addr) (n7 c7 : Nat) (a8 : Option Addr) (n8 c8 : Nat) (a9 : Option Addr) (n9 c9 : Nat) (a10 : Option Addr) (n10 c10 : Nat) (SVS : List SV) (s : StT) (h : StC w a1 n1 c1 a2 n2 c2 a3 n3 c3 a4 n4 c4 a5 n5 c5 a6 n6 c6 a7 n7 c7 a8 n8 c8 a9 n9 c9 a10 n10 c10 SVS s) (hok : s.ok) (hsl : (encG SeT.bytes s.S).length ≤ 50000000) :
  Calls Tryz.prog 7 #[.agg #[s.now, s.day, s.ph, .slice a1 n1 c1, .slice a2 n2 c2, .slice a3 n3 c3, s.nx, .slice a4 n4 c4, .slice a5 n5 c5, s.la, .slice a6 n6 c6, .slice a7 n7 c7, .slice a8 n8 c8, .slice a9 n9 c9, .slice a10 n10 c10]] w (BytesPost w s.bad s.bytes) := by
 have hle := s.bytes_len hok hsl
 have hb1 := (Below.refl w.heap.size w).alloc (Nat.le_refl _) (.cells #[s.now, s.day, s.ph, .slice a1 n1 c1, .slice a2 n2 c2, .slice a3 n3 c3, s.nx, .slice a4 n4 c4, .slice a5 n5 c5, s.la, .slice a6 n6 c6, .slice a7 n7 c7, .slice a8 n8 c8, .slice a9 n9 c9, .slice a10 n10 c10] 41)
 have hb2 := hb1.alloc hb1.size (.cells #[(), .bool false, .bool false] 80)
 have hp := PW.new3 (w := w.alloc (.cells #[s.now, s.day, s.ph, .slice a1 n1 c1, .slice a2 n2 c2, .slice a3 n3 c3, s.nx, .slice a4 n4 c4, .slice a5 n5 c5, s.la, .slice a6 n6 c6, .slice a7 n7 c7, .slice a8 n8 c8, .slice a9 n9 c9, .slice a10 n10 c10] 41)) (tw := 80) (g := w.heap.size + 1) (by simp)
 have hc : HT (w.alloc (.cells #[s.now, s.day, s.ph, .slice a1 n1 c1, .slice a2 n2 c2, .slice a3 n3 c3, s.nx, .slice a4 n4 c4, .slice a5 n5 c5, s.la, .slice a6 n6 c6, .slice a7 n7 c7, .slice a8 n8 c8, .slice a9 n9 c9, .slice a10 n10 c10] 41)) w.heap.size 41 [s.now, s.day, s.ph, .slice a1 n1 c1, .slice a2 n2 c2, .slice a3 n3 c3, s.nx, .slice a4 n4 c4, .slice a5 n5 c5, s.la, .slice a6 n6 c6, .slice a7 n7 c7, .slice a8 n8 c8, .slice a9 n9 c9, .slice a10 n10 c10] := HT.new (w := w)
 have hc2 := hc.below ((Below.refl _ _).alloc (Nat.le_refl _) (.cells #[(), .bool false, .bool false] 80))
 have HG : Hid (((w.alloc (.cells #[s.now, s.day, s.ph, .slice a1 n1 c1, .slice a2 n2 c2, .slice a3 n3 c3, s.nx, .slice a4 n4 c4, .slice a5 n5 c5, s.la, .slice a6 n6 c6, .slice a7 n7 c7, .slice a8 n8 c8, .slice a9 n9 c9, .slice a10 n10 c10] 41)).alloc (.cells #[(), .bool false, .bool false] 80)).heap[w.heap.size]? = some (.cells #[s.now, s.day, s.ph, .slice a1 n1 c1, .slice a2 n2 c2, .slice a3 n3 c3, s.nx, .slice a4 n4 c4, .slice a5 n5 c5, s.la, .slice a6 n6 c6, .slice a7 n7 c7, .slice a8 n8 c8, .slice a9 n9 c9, .slice a10 n10 c10] 41 (0, 0))) := hc2
 have HSZ : Hid ((Tryz.prog.info? 41).map (·.size) = some (#[s.now, s.day, s.ph, .slice a1 n1 c1, .slice a2 n2 c2, .slice a3 n3 c3, s.nx, .slice a4 n4 c4, .slice a5 n5 c5, s.la, .slice a6 n6 c6, .slice a7 n7 c7, .slice a8 n8 c8, .slice a9 n9 c9, .slice a10 n10 c10] : Array Value).size) := by show _ = _; rw [stSz]; rfl
 have hin : ∀ w', Kept (fun k => k = w.heap.size + 1 ∨ (Value.slice none 0 0).ownBlock = some k) ((w.alloc (.cells #[s.now, s.day, s.ph, .slice a1 n1 c1, .slice a2 n2 c2, .slice a3 n3 c3, s.nx, .slice a4 n4 c4, .slice a5 n5 c5, s.la, .slice a6 n6 c6, .slice a7 n7 c7, .slice a8 n8 c8, .slice a9 n9 c9, .slice a10 n10 c10] 41)).alloc (.cells #[(), .bool false, .bool false] 80)) w' → Below w.heap.size w w' := fun w' hk =>
  hb2.trans (hk.below (B := w.heap.size) (fun k hk e => by
   rcases e with e | e
   ·
    omega
   ·
    cases e) hb2.size)
 obtain ⟨h1, h2, h3, h4, h5, h6, h7, h8, h9, h10, hlm, h11⟩ := h
 have cm := wstate_any (tw := 80) _ _ _ [] false false s.now s.day s.ph s.nx s.la a1 n1 c1 a2 n2 c2 a3 n3 c3 a4 n4 c4 a5 n5 c5 a6 n6 c6 a7 n7 c7 a8 n8 c8 a9 n9 c9 a10 n10 c10 s.M s.I s.A s.T s.P s.B s.G s.C s.D s.S SVS hp (by simp) hok.clock hok.nx hok.la (fun w' hk => h1.mono (hin w' hk)) hok.M (fun w' hk => h2.mono (hin w' hk)) hok.I (fun w' hk => h3.mono (hin w' hk)) hok.A (fun w' hk => h4.mono (hin w' hk)) hok.T (fun w' hk => h5.mono (hin w' hk)) hok.P (fun w' hk => h6.mono (hin w' hk)) hok.B (fun w' hk => h7.mono (hin w' hk)) hok.G (fun w' hk => h8.mono (hin w' hk)) hok.C (fun w' hk => h9.mono (hin w' hk)) hok.D
  (fun w' hk => ⟨h10.mono (hin w' hk), fun i h h' => (h11 i h h').mono (hin w' hk)⟩) hok.S hlm hsl
 obtain ⟨L, hL⟩ : ∃ L, L = s.bytes := ⟨_, rfl⟩
 obtain ⟨wg, hwg⟩ : ∃ b, b = s.bad := ⟨_, rfl⟩
 rw [List.nil_append, Bool.false_or, show (⟨s.now, s.day, s.ph, s.M, s.I, s.A, s.nx, s.T, s.P, s.la, s.B, s.G, s.C, s.D, s.S⟩ : StT) = s from rfl, ← hL, ← hwg] at cm
 rw [← hL] at hle ⊢
 rw [← hwg]
 have HB2 := Lh hb2
 clear hb1 hb2 hp hc hc2 hok hL hwg hin h1 h2 h3 h4 h5 h6 h7 h8 h9 h10 h11 hlm hsl
 go_in
 go_wp2_with (first
  | (refine wpList_load_row rfl 41 (.tmp 1) rfl w.heap.size rfl 41 #[s.now, s.day, s.ph, .slice a1 n1 c1, .slice a2 n2 c2, .slice a3 n3 c3, s.nx, .slice a4 n4 c4, .slice a5 n5 c5, s.la, .slice a6 n6 c6, .slice a7 n7 c7, .slice a8 n8 c8, .slice a9 n9 c9, .slice a10 n10 c10] (0, 0) _ HG.out Tryz.underlying41 rfl HSZ.out ?_)
  | fail)
 refine cm.mono ?_
 clear cm
 rintro e w2 ⟨rfl, hpo⟩
 obtain ⟨v, hp2, hb3⟩ := hpo.below HB2.out (by simp)
 have by0 := bytes_any _ w2 _ v L wg hp2 (by omega)
 unfold BytesPost at by0
 have HB3 := Lh hb3
 clear hpo hp2 hb3
 generalize hbe : bE wg L = eb at by0
 have HBE := Lh hbe
 clear hbe
 go_wp2_with fail
 refine by0.mono ?_
 clear by0
 rintro e w3 ⟨a, n, c, rfl, ho, hb4⟩
 have HO := Lh ho
 have HB4 := Lh hb4
 clear ho hb4
 go_wp2_with fail
 go_ret2
 exact ⟨a, n, c, by rw [HBE.out]; rfl, OwnB.base HO.out HB3.out.size, HB3.out.trans (HB4.out.mono HB3.out.size)⟩
end Cam
