import Derived.Test.YtgeclnjkkjmbaaaGreatWqT1
import Derived.Test.YtgeclnjkkjmbaaaGreatWqT2
import Derived.Test.YtgeclnjkkjmbaaaGreatWqT3
import Derived.Test.YtgeclnjkkjmbaaaGreatWqT4
import Derived.Test.YtgeclnjkkjmbaaaGreatWqT5
import Derived.Test.YtgeclnjkkjmbaaaGreatWtM
/- cambistref24: State: its bytes. -/
namespace Cam
open Go Go.RowKit Go.Proofs
set_option linter.unusedVariables false
set_option linter.unusedSimpArgs false
set_option maxRecDepth 100000
set_option maxHeartbeats 6400000
theorem kept_no {w w' : World} (h : Kept (fun k => (Value.slice none 0 0).ownBlock = some k) w w') : Below w.heap.size w w' := h.below (fun _ _ e => by cases e) (Nat.le_refl _)
theorem StC.monoQ {w w' : World} {a1 : Option Addr} {n1 c1 : Nat} {a2 : Option Addr} {n2 c2 : Nat} {a3 : Option Addr} {n3 c3 : Nat} {a4 : Option Addr} {n4 c4 : Nat} {a5 : Option Addr} {n5 c5 : Nat} {a6 : Option Addr} {n6 c6 : Nat} {a7 : Option Addr} {n7 c7 : Nat} {a8 : Option Addr} {n8 c8 : Nat} {a9 : Option Addr} {n9 c9 : Nat} {a10 : Option Addr} {n10 c10 : Nat} {L : List SV} {s : StT} (h : StC w a1 n1 c1 a2 n2 c2 a3 n3 c3 a4 n4 c4 a5 n5 c5 a6 n6 c6 a7 n7 c7 a8 n8 c8 a9 n9 c9 a10 n10 c10 L s) (hb : Below w.heap.size w w') : StC w' a1 n1 c1 a2 n2 c2 a3 n3 c3 a4 n4 c4 a5 n5 c5 a6 n6 c6 a7 n7 c7 a8 n8 c8 a9 n9 c9 a10 n10 c10 L s := by
 obtain ⟨r1, r2, r3, r4, r5, r6, r7, r8, r9, r10, hlm, hsv⟩ := h
 exact ⟨r1.mono hb, r2.mono hb, r3.mono hb, r4.mono hb, r5.mono hb, r6.mono hb, r7.mono hb, r8.mono hb, r9.mono hb, r10.mono hb, hlm, fun i h h' => (hsv i h h').mono hb⟩
theorem bad_no {s : StT} (h : s.bad = false) : s.M.length ≤ 1024 ∧ s.I.length ≤ 1024 ∧ s.A.length ≤ 1024 ∧ s.T.length ≤ 1024 ∧ s.P.length ≤ 1024 ∧ s.B.length ≤ 1024 ∧ s.G.length ≤ 1024 ∧ s.C.length ≤ 1024 ∧ s.D.length ≤ 1024 ∧ s.S.length ≤ 1024 ∧ anyW s.S = false := by
 unfold StT.bad rollW bookW seaB at h
 simp only [Bool.or_eq_false_iff, decide_eq_false_iff_not] at h
 obtain ⟨⟨h1, h2, h3⟩, ⟨h4, h5⟩, h6, h7, h8, h9, h10⟩ := h
 by_cases hs : 1024 < s.S.length
 ·
  rw [if_pos hs] at h10; cases h10
 ·
  rw [if_neg hs] at h10
  exact ⟨by omega, by omega, by omega, by omega, by omega, by omega, by omega, by omega, by omega, by omega, h10⟩
theorem rState_any (w : World) (a1 : Option Addr) (n1 c1 : Nat) (a2 : Option Addr) (n2 c2 : Nat) (a3 : Option Addr) (n3 c3 : Nat) (a4 : Option Addr) (n4 c4 : Nat) (a5 : Option Addr) (n5 c5 : Nat) (a6 : Option Addr) (n6 c6 : Nat) (a7 : Option Addr) (n7 c7 : Nat) (a8 : Option Addr) (n8 c8 : Nat) (a9 : Option Addr) (n9 c9 : Nat) (a10 : Option Addr) (n10 c10 : Nat) (L : List SV) (s : StT) (h : StC w a1 n1 c1 a2 n2 c2 a3 n3 c3 a4 n4 c4 a5 n5 c5 a6 n6 c6 a7 n7 c7 a8 n8 c8 a9 n9 c9 a10 n10 c10 L s) (hok : s.ok) (hS : s.S.length ≤ 100) :
  Calls Tryz.prog 8 #[.agg #[s.now, s.day, s.ph, .slice a1 n1 c1, .slice a2 n2 c2, .slice a3 n3 c3, s.nx, .slice a4 n4 c4, .slice a5 n5 c5, s.la, .slice a6 n6 c6, .slice a7 n7 c7, .slice a8 n8 c8, .slice a9 n9 c9, .slice a10 n10 c10]] w (BytesPost w s.bad s.bytes) := by
 have hstm : ∀ x, Below w.heap.size w x → StC x a1 n1 c1 a2 n2 c2 a3 n3 c3 a4 n4 c4 a5 n5 c5 a6 n6 c6 a7 n7 c7 a8 n8 c8 a9 n9 c9 a10 n10 c10 L s := fun x hb => h.monoQ hb
 have e1 : n1 = s.M.length := by obtain ⟨_, _, e, _, _⟩ := h.1.shape; cases e; rfl
 have e2 : n2 = s.I.length := by obtain ⟨_, _, e, _, _⟩ := h.2.1.shape; cases e; rfl
 have e3 : n3 = s.A.length := by obtain ⟨_, _, e, _, _⟩ := h.2.2.1.shape; cases e; rfl
 have e4 : n4 = s.T.length := by obtain ⟨_, _, e, _, _⟩ := h.2.2.2.1.shape; cases e; rfl
 have e5 : n5 = s.P.length := by obtain ⟨_, _, e, _, _⟩ := h.2.2.2.2.1.shape; cases e; rfl
 have e6 : n6 = s.B.length := by obtain ⟨_, _, e, _, _⟩ := h.2.2.2.2.2.1.shape; cases e; rfl
 have e7 : n7 = s.G.length := by obtain ⟨_, _, e, _, _⟩ := h.2.2.2.2.2.2.1.shape; cases e; rfl
 have e8 : n8 = s.C.length := by obtain ⟨_, _, e, _, _⟩ := h.2.2.2.2.2.2.2.1.shape; cases e; rfl
 have e9 : n9 = s.D.length := by obtain ⟨_, _, e, _, _⟩ := h.2.2.2.2.2.2.2.2.1.shape; cases e; rfl
 have e10 : n10 = L.length := by obtain ⟨_, _, e, _, _⟩ := h.2.2.2.2.2.2.2.2.2.1.shape; cases e; rfl
 have hll : L.length = s.S.length := h.2.2.2.2.2.2.2.2.2.2.1
 have hb1 : Below w.heap.size w (w.alloc (.cells #[s.now, s.day, s.ph, .slice a1 n1 c1, .slice a2 n2 c2, .slice a3 n3 c3, s.nx, .slice a4 n4 c4, .slice a5 n5 c5, s.la, .slice a6 n6 c6, .slice a7 n7 c7, .slice a8 n8 c8, .slice a9 n9 c9, .slice a10 n10 c10] 41)) := Bn
 have hbx : HT (w.alloc (.cells #[s.now, s.day, s.ph, .slice a1 n1 c1, .slice a2 n2 c2, .slice a3 n3 c3, s.nx, .slice a4 n4 c4, .slice a5 n5 c5, s.la, .slice a6 n6 c6, .slice a7 n7 c7, .slice a8 n8 c8, .slice a9 n9 c9, .slice a10 n10 c10] 41)) w.heap.size 41 [s.now, s.day, s.ph, .slice a1 n1 c1, .slice a2 n2 c2, .slice a3 n3 c3, s.nx, .slice a4 n4 c4, .slice a5 n5 c5, s.la, .slice a6 n6 c6, .slice a7 n7 c7, .slice a8 n8 c8, .slice a9 n9 c9, .slice a10 n10 c10] := HT.new (w := w)
 have HSZ : Hid ((Tryz.prog.info? 41).map (·.size) = some (#[s.now, s.day, s.ph, .slice a1 n1 c1, .slice a2 n2 c2, .slice a3 n3 c3, s.nx, .slice a4 n4 c4, .slice a5 n5 c5, s.la, .slice a6 n6 c6, .slice a7 n7 c7, .slice a8 n8 c8, .slice a9 n9 c9, .slice a10 n10 c10] : Array Value).size) := by show _ = _; rw [stSz]; rfl
 have HG : Hid ((w.alloc (.cells #[s.now, s.day, s.ph, .slice a1 n1 c1, .slice a2 n2 c2, .slice a3 n3 c3, s.nx, .slice a4 n4 c4, .slice a5 n5 c5, s.la, .slice a6 n6 c6, .slice a7 n7 c7, .slice a8 n8 c8, .slice a9 n9 c9, .slice a10 n10 c10] 41)).heap[w.heap.size]? = some (.cells #[s.now, s.day, s.ph, .slice a1 n1 c1, .slice a2 n2 c2, .slice a3 n3 c3, s.nx, .slice a4 n4 c4, .slice a5 n5 c5, s.la, .slice a6 n6 c6, .slice a7 n7 c7, .slice a8 n8 c8, .slice a9 n9 c9, .slice a10 n10 c10] 41 (0, 0))) := hbx
 have rr := rright_any (w.alloc (.cells #[s.now, s.day, s.ph, .slice a1 n1 c1, .slice a2 n2 c2, .slice a3 n3 c3, s.nx, .slice a4 n4 c4, .slice a5 n5 c5, s.la, .slice a6 n6 c6, .slice a7 n7 c7, .slice a8 n8 c8, .slice a9 n9 c9, .slice a10 n10 c10] 41)) a1 n1 c1 a2 n2 c2 a3 n3 c3 a4 n4 c4 a5 n5 c5 a6 n6 c6 a7 n7 c7 a8 n8 c8 a9 n9 c9 a10 n10 c10 L s (hstm _ hb1)
 have HE : Hid (n1 = s.M.length ∧ n2 = s.I.length ∧ n3 = s.A.length ∧ n4 = s.T.length ∧ n5 = s.P.length ∧ n6 = s.B.length ∧ n7 = s.G.length ∧ n8 = s.C.length ∧ n9 = s.D.length ∧ n10 = L.length ∧ L.length = s.S.length) := ⟨e1, e2, e3, e4, e5, e6, e7, e8, e9, e10, hll⟩
 have HST := Lh hstm
 have HOK := Lh hok
 have HS := Lh hS
 have HB1 := Lh hb1
 have HBX := Lh hbx
 obtain ⟨bad, hbad⟩ : ∃ b, b = s.bad := ⟨_, rfl⟩
 rw [← hbad] at rr ⊢
 have HBAD := Lh hbad
 clear h hstm hok hS hb1 hbx e1 e2 e3 e4 e5 e6 e7 e8 e9 e10 hll hbad
 go_in
 go_wp2_with (first
  | (refine wpList_load_row rfl 41 (.tmp 1) rfl w.heap.size rfl 41 #[s.now, s.day, s.ph, .slice a1 n1 c1, .slice a2 n2 c2, .slice a3 n3 c3, s.nx, .slice a4 n4 c4, .slice a5 n5 c5, s.la, .slice a6 n6 c6, .slice a7 n7 c7, .slice a8 n8 c8, .slice a9 n9 c9, .slice a10 n10 c10] (0, 0) _ HG.out Tryz.underlying41 rfl HSZ.out ?_)
  | fail)
 refine rr.mono ?_
 clear rr HG
 rintro e w1 ⟨rfl, hb⟩
 have HB2 := Lh (bgo HB1.out hb HB1.out.size)
 have hbo := HBX.out.below hb
 clear hb
 cases bad with
 | true =>
  clear hbo
  go_wp2_with fail
  go_ret2
  exact ⟨none, 0, 0, by unfold bE; simp, by unfold bL; simp; exact OwnB.empty _ _ _, HB2.out⟩
 | false =>
  have hno := bad_no HBAD.out.symm
  obtain ⟨g1, hg1⟩ : ∃ b, b = w.heap.size := ⟨_, rfl⟩
  rw [← hg1] at hbo ⊢
  have HG1 := Lh hg1
  have HBOX0 := Lh hbo
  have HNO := Lh hno
  clear hno hg1 hbo
  obtain ⟨y0, hy0⟩ : ∃ y, y = s.now := ⟨_, rfl⟩
  obtain ⟨y1, hy1⟩ : ∃ y, y = s.day := ⟨_, rfl⟩
  obtain ⟨y2, hy2⟩ : ∃ y, y = s.ph := ⟨_, rfl⟩
  obtain ⟨yb, hyb⟩ : ∃ y, y = s.nx := ⟨_, rfl⟩
  obtain ⟨yl, hyl⟩ : ∃ y, y = s.la := ⟨_, rfl⟩
  have HBOX : Hid (HT w1 g1 41 [y0, y1, y2, .slice a1 n1 c1, .slice a2 n2 c2, .slice a3 n3 c3, yb, .slice a4 n4 c4, .slice a5 n5 c5, yl, .slice a6 n6 c6, .slice a7 n7 c7, .slice a8 n8 c8, .slice a9 n9 c9, .slice a10 n10 c10]) := by show HT _ _ _ _; rw [hy0, hy1, hy2, hyb, hyl]; exact HBOX0.out
  have HYS : Hid (y0 = s.now ∧ y1 = s.day ∧ y2 = s.ph ∧ yb = s.nx ∧ yl = s.la) := ⟨hy0, hy1, hy2, hyb, hyl⟩
  clear hy0 hy1 hy2 hyb hyl HBOX0
  have HNE : Hid ((Value.slice none 0 0).ownBlock ≠ some g1) := by show _ ≠ _; simp [Value.ownBlock]
  have HSK : Hid (∀ x, Kept (fun k => (Value.slice none 0 0).ownBlock = some k) w1 x → StC x a1 n1 c1 a2 n2 c2 a3 n3 c3 a4 n4 c4 a5 n5 c5 a6 n6 c6 a7 n7 c7 a8 n8 c8 a9 n9 c9 a10 n10 c10 L s) := fun x hx => HST.out x (bgo HB2.out (kept_no hx) HB2.out.size)
  have HR1 : Hid (∀ x, Kept (fun k => (Value.slice none 0 0).ownBlock = some k) w1 x → Rs MbT.vs 3 x (.slice a1 n1 c1) s.M) := fun x hx => (HSK.out x hx).1
  have HN1 : Hid (n1 = s.M.length ∧ n1 ≤ 1024) := by have h := HE.out.1; have := HNO.out.1; show _ ∧ _; omega
  have HD1 : Hid (∀ x ∈ s.M, okI x.ints) := HOK.out.M
  have HR2 : Hid (∀ x, Kept (fun k => (Value.slice none 0 0).ownBlock = some k) w1 x → Rs InT.vs 12 x (.slice a2 n2 c2) s.I) := fun x hx => (HSK.out x hx).2.1
  have HN2 : Hid (n2 = s.I.length ∧ n2 ≤ 1024) := by have h := HE.out.2.1; have := HNO.out.2.1; show _ ∧ _; omega
  have HD2 : Hid (∀ x ∈ s.I, okI x.ints) := HOK.out.I
  have HR3 : Hid (∀ x, Kept (fun k => (Value.slice none 0 0).ownBlock = some k) w1 x → Rs AsT.vs 4 x (.slice a3 n3 c3) s.A) := fun x hx => (HSK.out x hx).2.2.1
  have HN3 : Hid (n3 = s.A.length ∧ n3 ≤ 1024) := by have h := HE.out.2.2.1; have := HNO.out.2.2.1; show _ ∧ _; omega
  have HD3 : Hid (∀ x ∈ s.A, okI x.ints) := HOK.out.A
  have HR4 : Hid (∀ x, Kept (fun k => (Value.slice none 0 0).ownBlock = some k) w1 x → Rs TrT.vs 7 x (.slice a4 n4 c4) s.T) := fun x hx => (HSK.out x hx).2.2.2.1
  have HN4 : Hid (n4 = s.T.length ∧ n4 ≤ 1024) := by have h := HE.out.2.2.2.1; have := HNO.out.2.2.2.1; show _ ∧ _; omega
  have HD4 : Hid (∀ x ∈ s.T, okI x.ints) := HOK.out.T
  have HR5 : Hid (∀ x, Kept (fun k => (Value.slice none 0 0).ownBlock = some k) w1 x → Rs PoT.vs 4 x (.slice a5 n5 c5) s.P) := fun x hx => (HSK.out x hx).2.2.2.2.1
  have HN5 : Hid (n5 = s.P.length ∧ n5 ≤ 1024) := by have h := HE.out.2.2.2.2.1; have := HNO.out.2.2.2.2.1; show _ ∧ _; omega
  have HD5 : Hid (∀ x ∈ s.P, okI x.ints) := HOK.out.P
  have HR6 : Hid (∀ x, Kept (fun k => (Value.slice none 0 0).ownBlock = some k) w1 x → Rs BaT.vs 4 x (.slice a6 n6 c6) s.B) := fun x hx => (HSK.out x hx).2.2.2.2.2.1
  have HN6 : Hid (n6 = s.B.length ∧ n6 ≤ 1024) := by have h := HE.out.2.2.2.2.2.1; have := HNO.out.2.2.2.2.2.1; show _ ∧ _; omega
  have HD6 : Hid (∀ x ∈ s.B, okI x.ints) := HOK.out.B
  have HR7 : Hid (∀ x, Kept (fun k => (Value.slice none 0 0).ownBlock = some k) w1 x → Rs PlT.vs 3 x (.slice a7 n7 c7) s.G) := fun x hx => (HSK.out x hx).2.2.2.2.2.2.1
  have HN7 : Hid (n7 = s.G.length ∧ n7 ≤ 1024) := by have h := HE.out.2.2.2.2.2.2.1; have := HNO.out.2.2.2.2.2.2.1; show _ ∧ _; omega
  have HD7 : Hid (∀ x ∈ s.G, okI x.ints) := HOK.out.G
  have HR8 : Hid (∀ x, Kept (fun k => (Value.slice none 0 0).ownBlock = some k) w1 x → Rs CaT.vs 4 x (.slice a8 n8 c8) s.C) := fun x hx => (HSK.out x hx).2.2.2.2.2.2.2.1
  have HN8 : Hid (n8 = s.C.length ∧ n8 ≤ 1024) := by have h := HE.out.2.2.2.2.2.2.2.1; have := HNO.out.2.2.2.2.2.2.2.1; show _ ∧ _; omega
  have HD8 : Hid (∀ x ∈ s.C, okI x.ints) := HOK.out.C
  have HR9 : Hid (∀ x, Kept (fun k => (Value.slice none 0 0).ownBlock = some k) w1 x → Rs BiT.vs 5 x (.slice a9 n9 c9) s.D) := fun x hx => (HSK.out x hx).2.2.2.2.2.2.2.2.1
  have HN9 : Hid (n9 = s.D.length ∧ n9 ≤ 1024) := by have h := HE.out.2.2.2.2.2.2.2.2.1; have := HNO.out.2.2.2.2.2.2.2.2.1; show _ ∧ _; omega
  have HD9 : Hid (∀ x ∈ s.D, okI x.ints) := HOK.out.D
  have HR10 : Hid (∀ x, Kept (fun k => (Value.slice none 0 0).ownBlock = some k) w1 x → Rs SV.vs 7 x (.slice a10 n10 c10) L ∧ ∀ i (h : i < L.length) (h' : i < s.S.length), SVok x L[i] s.S[i]) := fun x hx => ⟨(HSK.out x hx).2.2.2.2.2.2.2.2.2.1, (HSK.out x hx).2.2.2.2.2.2.2.2.2.2.2⟩
  have HN10 : Hid (n10 = s.S.length ∧ n10 ≤ 100 ∧ L.length = s.S.length) := by have h1 := HE.out.2.2.2.2.2.2.2.2.2.1; have h2 := HE.out.2.2.2.2.2.2.2.2.2.2; have := HS.out; show _ ∧ _ ∧ _; omega
  have HD10 : Hid (∀ x ∈ s.S, x.ok) := HOK.out.S
  have HRW : Hid (∀ x ∈ s.S, repW x.r.D x.r.F = false) := by
   intro x hx
   have h := HNO.out.2.2.2.2.2.2.2.2.2.2
   unfold anyW at h
   have h2 := List.any_eq_false.1 h x hx
   simpa using h2
  clear HST HE HNO HS HSK
  have hyk : okI [y0, y1, y2, (n1 : Int)] := by
   have h := HN1.out
   intro m hm
   simp only [List.mem_cons, List.not_mem_nil, or_false] at hm
   have hc := HOK.out.clock
   rcases hm with h1 | h1 | h1 | h1
   ·
    exact hc m (by rw [h1, HYS.out.1]; simp)
   ·
    exact hc m (by rw [h1, HYS.out.2.1]; simp)
   ·
    exact hc m (by rw [h1, HYS.out.2.2.1]; simp)
   ·
    omega
  have nm := BK.num (BK.start (OwnB.empty _ _ _ : OwnB 5 w1 w1.heap.size (.slice none 0 0) [])) ((Below.refl _ _).alloc (Nat.le_refl _) (.cells #[y0, y1, y2, (n1 : Int)] 3)) (Is.block (l := [y0, y1, y2, (n1 : Int)]) (cap := 4) (heap_alloc_new _ _) (by simp) (by simp [maxLen])) hyk (by simp) (by simp) (Nat.le_refl _)
  rw [List.nil_append] at nm
  have HLP : Hid (([] : List UInt8).length ≤ 0) := Nat.le_refl 0
  have hbw := HBOX.out
  have q0 := hbw.cell (j := 0) rfl
  have q1 := hbw.cell (j := 1) rfl
  have q2 := hbw.cell (j := 2) rfl
  have qs := hbw.cell (j := 3) rfl
  have HYK := Lh hyk
  clear hbw hyk
  go_wp2_with fail
  refine nm.mono ?_
  clear nm qs q0 q1 q2
  rintro e w2 ⟨ab, nb, cb, rfl, hbk⟩
  obtain ⟨lq1, hlq⟩ : ∃ x, x = encIs [y0, y1, y2, (n1 : Int)] := ⟨_, rfl⟩
  rw [← hlq] at hbk
  have hq9 := encIs_length [y0, y1, y2, (n1 : Int)] HYK.out
  have HLQ : Hid (lq1.length ≤ 1000) := by have h2 := HLP.out; show _ ≤ _; rw [hlq]; simp at hq9 h2; omega
  have HL1 := Lh hlq
  have HBK := Lh hbk
  clear hbk hlq hq9
  go_upto_block 0 with fail
  go_cut [4] (fun v4 wx => ∃ a n c, v4 = .slice a n c ∧ WsP w1 (lq1 ++ encG MbT.bytes s.M) a n c wx)
  case first =>
   refine ws_mem HBOX HNE (Lh rfl) HR1 HN1 HD1 (Lh (Nat.le_trans HLQ.out (by decide))) HBK ?_
   intros
   rename_i a n c wx hx
   have HX := Lh hx
   clear hx
   go_wp2_with fail
   go_meet
   exact ⟨_, _, _, rfl, HX.out⟩
  case rest =>
   obtain ⟨ab, nb, cb, rfl, hw⟩ := hcut
   unfold WsP at hw
   obtain ⟨lp1, hlp⟩ : ∃ x, x = lq1 ++ encG MbT.bytes s.M := ⟨_, rfl⟩
   rw [← hlp] at hw
   have HLP2 : Hid (lp1.length ≤ 210000) := by
    have h1 := encG_length MbT.bytes 200 s.M (fun x hx => MbT.blen x (HD1.out x hx))
    have h2 := HN1.out
    have h3 := HLQ.out
    show _ ≤ _
    rw [hlp, List.length_append]
    omega
   have HLP := HLP2
   clear HLP2 HLQ HBK HYK
   have HM1 := Lh hlp
   clear hlp
   have hyk : okI [(n2 : Int)] := by
    have h := HN2.out
    intro m hm
    simp only [List.mem_cons, List.not_mem_nil, or_false] at hm
    omega
   have nm := BK.num hw ((Below.refl _ _).alloc (Nat.le_refl _) (.cells #[(n2 : Int)] 3)) (Is.block (l := [(n2 : Int)]) (cap := 1) (heap_alloc_new _ _) (by simp) (by simp [maxLen])) hyk (by simp) (Nat.le_trans HLP.out (by decide)) (Nat.le_refl _)
   have hbw := hw.box HBOX.out HNE.out
   have qs := hbw.cell (j := 4) rfl
   have HYK := Lh hyk
   clear hbw hyk hw
   go_wp2_with fail
   refine nm.mono ?_
   clear nm qs
   rintro e w2 ⟨ab, nb, cb, rfl, hbk⟩
   obtain ⟨lq2, hlq⟩ : ∃ x, x = lp1 ++ encIs [(n2 : Int)] := ⟨_, rfl⟩
   rw [← hlq] at hbk
   have hq9 := encIs_length [(n2 : Int)] HYK.out
   have HLQ : Hid (lq2.length ≤ 211000) := by have h2 := HLP.out; show _ ≤ _; rw [hlq]; rw [List.length_append]; simp at hq9 h2; omega
   have HL2 := Lh hlq
   have HBK := Lh hbk
   clear hbk hlq hq9
   go_upto_block 2 with fail
   go_cut [4] (fun v4 wx => ∃ a n c, v4 = .slice a n c ∧ WsP w1 (lq2 ++ encG InT.bytes s.I) a n c wx)
   case first =>
    refine ws_ins HBOX HNE (Lh rfl) HR2 HN2 HD2 (Lh (Nat.le_trans HLQ.out (by decide))) HBK ?_
    intros
    rename_i a n c wx hx
    have HX := Lh hx
    clear hx
    go_wp2_with fail
    go_meet
    exact ⟨_, _, _, rfl, HX.out⟩
   case rest =>
    obtain ⟨ab, nb, cb, rfl, hw⟩ := hcut
    unfold WsP at hw
    obtain ⟨lp2, hlp⟩ : ∃ x, x = lq2 ++ encG InT.bytes s.I := ⟨_, rfl⟩
    rw [← hlp] at hw
    have HLP2 : Hid (lp2.length ≤ 420000) := by
     have h1 := encG_length InT.bytes 200 s.I (fun x hx => InT.blen x (HD2.out x hx))
     have h2 := HN2.out
     have h3 := HLQ.out
     show _ ≤ _
     rw [hlp, List.length_append]
     omega
    have HLP := HLP2
    clear HLP2 HLQ HBK HYK
    have HM2 := Lh hlp
    clear hlp
    have hyk : okI [(n3 : Int)] := by
     have h := HN3.out
     intro m hm
     simp only [List.mem_cons, List.not_mem_nil, or_false] at hm
     omega
    have nm := BK.num hw ((Below.refl _ _).alloc (Nat.le_refl _) (.cells #[(n3 : Int)] 3)) (Is.block (l := [(n3 : Int)]) (cap := 1) (heap_alloc_new _ _) (by simp) (by simp [maxLen])) hyk (by simp) (Nat.le_trans HLP.out (by decide)) (Nat.le_refl _)
    have hbw := hw.box HBOX.out HNE.out
    have qs := hbw.cell (j := 5) rfl
    have HYK := Lh hyk
    clear hbw hyk hw
    go_wp2_with fail
    refine nm.mono ?_
    clear nm qs
    rintro e w2 ⟨ab, nb, cb, rfl, hbk⟩
    obtain ⟨lq3, hlq⟩ : ∃ x, x = lp2 ++ encIs [(n3 : Int)] := ⟨_, rfl⟩
    rw [← hlq] at hbk
    have hq9 := encIs_length [(n3 : Int)] HYK.out
    have HLQ : Hid (lq3.length ≤ 421000) := by have h2 := HLP.out; show _ ≤ _; rw [hlq]; rw [List.length_append]; simp at hq9 h2; omega
    have HL3 := Lh hlq
    have HBK := Lh hbk
    clear hbk hlq hq9
    go_upto_block 4 with fail
    go_cut [4] (fun v4 wx => ∃ a n c, v4 = .slice a n c ∧ WsP w1 (lq3 ++ encG AsT.bytes s.A) a n c wx)
    case first =>
     refine ws_ass HBOX HNE (Lh rfl) HR3 HN3 HD3 (Lh (Nat.le_trans HLQ.out (by decide))) HBK ?_
     intros
     rename_i a n c wx hx
     have HX := Lh hx
     clear hx
     go_wp2_with fail
     go_meet
     exact ⟨_, _, _, rfl, HX.out⟩
    case rest =>
     obtain ⟨ab, nb, cb, rfl, hw⟩ := hcut
     unfold WsP at hw
     obtain ⟨lp3, hlp⟩ : ∃ x, x = lq3 ++ encG AsT.bytes s.A := ⟨_, rfl⟩
     rw [← hlp] at hw
     have HLP2 : Hid (lp3.length ≤ 630000) := by
      have h1 := encG_length AsT.bytes 200 s.A (fun x hx => AsT.blen x (HD3.out x hx))
      have h2 := HN3.out
      have h3 := HLQ.out
      show _ ≤ _
      rw [hlp, List.length_append]
      omega
     have HLP := HLP2
     clear HLP2 HLQ HBK HYK
     have HM3 := Lh hlp
     clear hlp
     have hyk : okI [yb, (n4 : Int)] := by
      have h := HN4.out
      intro m hm
      simp only [List.mem_cons, List.not_mem_nil, or_false] at hm
      have hc := HOK.out.nx
      rcases hm with h1 | h1
      ·
       exact hc m (by rw [h1, HYS.out.2.2.2.1]; simp)
      ·
       omega
     have nm := BK.num hw ((Below.refl _ _).alloc (Nat.le_refl _) (.cells #[yb, (n4 : Int)] 3)) (Is.block (l := [yb, (n4 : Int)]) (cap := 2) (heap_alloc_new _ _) (by simp) (by simp [maxLen])) hyk (by simp) (Nat.le_trans HLP.out (by decide)) (Nat.le_refl _)
     have hbw := hw.box HBOX.out HNE.out
     have q6 := hbw.cell (j := 6) rfl
     have qs := hbw.cell (j := 7) rfl
     have HYK := Lh hyk
     clear hbw hyk hw
     go_wp2_with fail
     refine nm.mono ?_
     clear nm qs q6
     rintro e w2 ⟨ab, nb, cb, rfl, hbk⟩
     obtain ⟨lq4, hlq⟩ : ∃ x, x = lp3 ++ encIs [yb, (n4 : Int)] := ⟨_, rfl⟩
     rw [← hlq] at hbk
     have hq9 := encIs_length [yb, (n4 : Int)] HYK.out
     have HLQ : Hid (lq4.length ≤ 631000) := by have h2 := HLP.out; show _ ≤ _; rw [hlq]; rw [List.length_append]; simp at hq9 h2; omega
     have HL4 := Lh hlq
     have HBK := Lh hbk
     clear hbk hlq hq9
     go_upto_block 6 with fail
     go_cut [4] (fun v4 wx => ∃ a n c, v4 = .slice a n c ∧ WsP w1 (lq4 ++ encG TrT.bytes s.T) a n c wx)
     case first =>
      refine ws_trd HBOX HNE (Lh rfl) HR4 HN4 HD4 (Lh (Nat.le_trans HLQ.out (by decide))) HBK ?_
      intros
      rename_i a n c wx hx
      have HX := Lh hx
      clear hx
      go_wp2_with fail
      go_meet
      exact ⟨_, _, _, rfl, HX.out⟩
     case rest =>
      obtain ⟨ab, nb, cb, rfl, hw⟩ := hcut
      unfold WsP at hw
      obtain ⟨lp4, hlp⟩ : ∃ x, x = lq4 ++ encG TrT.bytes s.T := ⟨_, rfl⟩
      rw [← hlp] at hw
      have HLP2 : Hid (lp4.length ≤ 840000) := by
       have h1 := encG_length TrT.bytes 200 s.T (fun x hx => TrT.blen x (HD4.out x hx))
       have h2 := HN4.out
       have h3 := HLQ.out
       show _ ≤ _
       rw [hlp, List.length_append]
       omega
      have HLP := HLP2
      clear HLP2 HLQ HBK HYK
      have HM4 := Lh hlp
      clear hlp
      have hyk : okI [(n5 : Int)] := by
       have h := HN5.out
       intro m hm
       simp only [List.mem_cons, List.not_mem_nil, or_false] at hm
       omega
      have nm := BK.num hw ((Below.refl _ _).alloc (Nat.le_refl _) (.cells #[(n5 : Int)] 3)) (Is.block (l := [(n5 : Int)]) (cap := 1) (heap_alloc_new _ _) (by simp) (by simp [maxLen])) hyk (by simp) (Nat.le_trans HLP.out (by decide)) (Nat.le_refl _)
      have hbw := hw.box HBOX.out HNE.out
      have qs := hbw.cell (j := 8) rfl
      have HYK := Lh hyk
      clear hbw hyk hw
      go_wp2_with fail
      refine nm.mono ?_
      clear nm qs
      rintro e w2 ⟨ab, nb, cb, rfl, hbk⟩
      obtain ⟨lq5, hlq⟩ : ∃ x, x = lp4 ++ encIs [(n5 : Int)] := ⟨_, rfl⟩
      rw [← hlq] at hbk
      have hq9 := encIs_length [(n5 : Int)] HYK.out
      have HLQ : Hid (lq5.length ≤ 841000) := by have h2 := HLP.out; show _ ≤ _; rw [hlq]; rw [List.length_append]; simp at hq9 h2; omega
      have HL5 := Lh hlq
      have HBK := Lh hbk
      clear hbk hlq hq9
      go_upto_block 8 with fail
      go_cut [4] (fun v4 wx => ∃ a n c, v4 = .slice a n c ∧ WsP w1 (lq5 ++ encG PoT.bytes s.P) a n c wx)
      case first =>
       refine ws_pos HBOX HNE (Lh rfl) HR5 HN5 HD5 (Lh (Nat.le_trans HLQ.out (by decide))) HBK ?_
       intros
       rename_i a n c wx hx
       have HX := Lh hx
       clear hx
       go_wp2_with fail
       go_meet
       exact ⟨_, _, _, rfl, HX.out⟩
      case rest =>
       obtain ⟨ab, nb, cb, rfl, hw⟩ := hcut
       unfold WsP at hw
       obtain ⟨lp5, hlp⟩ : ∃ x, x = lq5 ++ encG PoT.bytes s.P := ⟨_, rfl⟩
       rw [← hlp] at hw
       have HLP2 : Hid (lp5.length ≤ 1050000) := by
        have h1 := encG_length PoT.bytes 200 s.P (fun x hx => PoT.blen x (HD5.out x hx))
        have h2 := HN5.out
        have h3 := HLQ.out
        show _ ≤ _
        rw [hlp, List.length_append]
        omega
       have HLP := HLP2
       clear HLP2 HLQ HBK HYK
       have HM5 := Lh hlp
       clear hlp
       have hyk : okI [yl, (n6 : Int)] := by
        have h := HN6.out
        intro m hm
        simp only [List.mem_cons, List.not_mem_nil, or_false] at hm
        have hc := HOK.out.la
        rcases hm with h1 | h1
        ·
         exact hc m (by rw [h1, HYS.out.2.2.2.2]; simp)
        ·
         omega
       have nm := BK.num hw ((Below.refl _ _).alloc (Nat.le_refl _) (.cells #[yl, (n6 : Int)] 3)) (Is.block (l := [yl, (n6 : Int)]) (cap := 2) (heap_alloc_new _ _) (by simp) (by simp [maxLen])) hyk (by simp) (Nat.le_trans HLP.out (by decide)) (Nat.le_refl _)
       have hbw := hw.box HBOX.out HNE.out
       have q9 := hbw.cell (j := 9) rfl
       have qs := hbw.cell (j := 10) rfl
       have HYK := Lh hyk
       clear hbw hyk hw
       go_wp2_with fail
       refine nm.mono ?_
       clear nm qs q9
       rintro e w2 ⟨ab, nb, cb, rfl, hbk⟩
       obtain ⟨lq6, hlq⟩ : ∃ x, x = lp5 ++ encIs [yl, (n6 : Int)] := ⟨_, rfl⟩
       rw [← hlq] at hbk
       have hq9 := encIs_length [yl, (n6 : Int)] HYK.out
       have HLQ : Hid (lq6.length ≤ 1051000) := by have h2 := HLP.out; show _ ≤ _; rw [hlq]; rw [List.length_append]; simp at hq9 h2; omega
       have HL6 := Lh hlq
       have HBK := Lh hbk
       clear hbk hlq hq9
       go_upto_block 10 with fail
       go_cut [4] (fun v4 wx => ∃ a n c, v4 = .slice a n c ∧ WsP w1 (lq6 ++ encG BaT.bytes s.B) a n c wx)
       case first =>
        refine ws_bal HBOX HNE (Lh rfl) HR6 HN6 HD6 (Lh (Nat.le_trans HLQ.out (by decide))) HBK ?_
        intros
        rename_i a n c wx hx
        have HX := Lh hx
        clear hx
        go_wp2_with fail
        go_meet
        exact ⟨_, _, _, rfl, HX.out⟩
       case rest =>
        obtain ⟨ab, nb, cb, rfl, hw⟩ := hcut
        unfold WsP at hw
        obtain ⟨lp6, hlp⟩ : ∃ x, x = lq6 ++ encG BaT.bytes s.B := ⟨_, rfl⟩
        rw [← hlp] at hw
        have HLP2 : Hid (lp6.length ≤ 1260000) := by
         have h1 := encG_length BaT.bytes 200 s.B (fun x hx => BaT.blen x (HD6.out x hx))
         have h2 := HN6.out
         have h3 := HLQ.out
         show _ ≤ _
         rw [hlp, List.length_append]
         omega
        have HLP := HLP2
        clear HLP2 HLQ HBK HYK
        have HM6 := Lh hlp
        clear hlp
        have hyk : okI [(n7 : Int)] := by
         have h := HN7.out
         intro m hm
         simp only [List.mem_cons, List.not_mem_nil, or_false] at hm
         omega
        have nm := BK.num hw ((Below.refl _ _).alloc (Nat.le_refl _) (.cells #[(n7 : Int)] 3)) (Is.block (l := [(n7 : Int)]) (cap := 1) (heap_alloc_new _ _) (by simp) (by simp [maxLen])) hyk (by simp) (Nat.le_trans HLP.out (by decide)) (Nat.le_refl _)
        have hbw := hw.box HBOX.out HNE.out
        have qs := hbw.cell (j := 11) rfl
        have HYK := Lh hyk
        clear hbw hyk hw
        go_wp2_with fail
        refine nm.mono ?_
        clear nm qs
        rintro e w2 ⟨ab, nb, cb, rfl, hbk⟩
        obtain ⟨lq7, hlq⟩ : ∃ x, x = lp6 ++ encIs [(n7 : Int)] := ⟨_, rfl⟩
        rw [← hlq] at hbk
        have hq9 := encIs_length [(n7 : Int)] HYK.out
        have HLQ : Hid (lq7.length ≤ 1261000) := by have h2 := HLP.out; show _ ≤ _; rw [hlq]; rw [List.length_append]; simp at hq9 h2; omega
        have HL7 := Lh hlq
        have HBK := Lh hbk
        clear hbk hlq hq9
        go_upto_block 12 with fail
        go_cut [4] (fun v4 wx => ∃ a n c, v4 = .slice a n c ∧ WsP w1 (lq7 ++ encG PlT.bytes s.G) a n c wx)
        case first =>
         refine ws_ple HBOX HNE (Lh rfl) HR7 HN7 HD7 (Lh (Nat.le_trans HLQ.out (by decide))) HBK ?_
         intros
         rename_i a n c wx hx
         have HX := Lh hx
         clear hx
         go_wp2_with fail
         go_meet
         exact ⟨_, _, _, rfl, HX.out⟩
        case rest =>
         obtain ⟨ab, nb, cb, rfl, hw⟩ := hcut
         unfold WsP at hw
         obtain ⟨lp7, hlp⟩ : ∃ x, x = lq7 ++ encG PlT.bytes s.G := ⟨_, rfl⟩
         rw [← hlp] at hw
         have HLP2 : Hid (lp7.length ≤ 1470000) := by
          have h1 := encG_length PlT.bytes 200 s.G (fun x hx => PlT.blen x (HD7.out x hx))
          have h2 := HN7.out
          have h3 := HLQ.out
          show _ ≤ _
          rw [hlp, List.length_append]
          omega
         have HLP := HLP2
         clear HLP2 HLQ HBK HYK
         have HM7 := Lh hlp
         clear hlp
         have hyk : okI [(n8 : Int)] := by
          have h := HN8.out
          intro m hm
          simp only [List.mem_cons, List.not_mem_nil, or_false] at hm
          omega
         have nm := BK.num hw ((Below.refl _ _).alloc (Nat.le_refl _) (.cells #[(n8 : Int)] 3)) (Is.block (l := [(n8 : Int)]) (cap := 1) (heap_alloc_new _ _) (by simp) (by simp [maxLen])) hyk (by simp) (Nat.le_trans HLP.out (by decide)) (Nat.le_refl _)
         have hbw := hw.box HBOX.out HNE.out
         have qs := hbw.cell (j := 12) rfl
         have HYK := Lh hyk
         clear hbw hyk hw
         go_wp2_with fail
         refine nm.mono ?_
         clear nm qs
         rintro e w2 ⟨ab, nb, cb, rfl, hbk⟩
         obtain ⟨lq8, hlq⟩ : ∃ x, x = lp7 ++ encIs [(n8 : Int)] := ⟨_, rfl⟩
         rw [← hlq] at hbk
         have hq9 := encIs_length [(n8 : Int)] HYK.out
         have HLQ : Hid (lq8.length ≤ 1471000) := by have h2 := HLP.out; show _ ≤ _; rw [hlq]; rw [List.length_append]; simp at hq9 h2; omega
         have HL8 := Lh hlq
         have HBK := Lh hbk
         clear hbk hlq hq9
         go_upto_block 14 with fail
         go_cut [4] (fun v4 wx => ∃ a n c, v4 = .slice a n c ∧ WsP w1 (lq8 ++ encG CaT.bytes s.C) a n c wx)
         case first =>
          refine ws_cal HBOX HNE (Lh rfl) HR8 HN8 HD8 (Lh (Nat.le_trans HLQ.out (by decide))) HBK ?_
          intros
          rename_i a n c wx hx
          have HX := Lh hx
          clear hx
          go_wp2_with fail
          go_meet
          exact ⟨_, _, _, rfl, HX.out⟩
         case rest =>
          obtain ⟨ab, nb, cb, rfl, hw⟩ := hcut
          unfold WsP at hw
          obtain ⟨lp8, hlp⟩ : ∃ x, x = lq8 ++ encG CaT.bytes s.C := ⟨_, rfl⟩
          rw [← hlp] at hw
          have HLP2 : Hid (lp8.length ≤ 1680000) := by
           have h1 := encG_length CaT.bytes 200 s.C (fun x hx => CaT.blen x (HD8.out x hx))
           have h2 := HN8.out
           have h3 := HLQ.out
           show _ ≤ _
           rw [hlp, List.length_append]
           omega
          have HLP := HLP2
          clear HLP2 HLQ HBK HYK
          have HM8 := Lh hlp
          clear hlp
          have hyk : okI [(n9 : Int)] := by
           have h := HN9.out
           intro m hm
           simp only [List.mem_cons, List.not_mem_nil, or_false] at hm
           omega
          have nm := BK.num hw ((Below.refl _ _).alloc (Nat.le_refl _) (.cells #[(n9 : Int)] 3)) (Is.block (l := [(n9 : Int)]) (cap := 1) (heap_alloc_new _ _) (by simp) (by simp [maxLen])) hyk (by simp) (Nat.le_trans HLP.out (by decide)) (Nat.le_refl _)
          have hbw := hw.box HBOX.out HNE.out
          have qs := hbw.cell (j := 13) rfl
          have HYK := Lh hyk
          clear hbw hyk hw
          go_wp2_with fail
          refine nm.mono ?_
          clear nm qs
          rintro e w2 ⟨ab, nb, cb, rfl, hbk⟩
          obtain ⟨lq9, hlq⟩ : ∃ x, x = lp8 ++ encIs [(n9 : Int)] := ⟨_, rfl⟩
          rw [← hlq] at hbk
          have hq9 := encIs_length [(n9 : Int)] HYK.out
          have HLQ : Hid (lq9.length ≤ 1681000) := by have h2 := HLP.out; show _ ≤ _; rw [hlq]; rw [List.length_append]; simp at hq9 h2; omega
          have HL9 := Lh hlq
          have HBK := Lh hbk
          clear hbk hlq hq9
          go_upto_block 16 with fail
          go_cut [4] (fun v4 wx => ∃ a n c, v4 = .slice a n c ∧ WsP w1 (lq9 ++ encG BiT.bytes s.D) a n c wx)
          case first =>
           refine ws_bid HBOX HNE (Lh rfl) HR9 HN9 HD9 (Lh (Nat.le_trans HLQ.out (by decide))) HBK ?_
           intros
           rename_i a n c wx hx
           have HX := Lh hx
           clear hx
           go_wp2_with fail
           go_meet
           exact ⟨_, _, _, rfl, HX.out⟩
          case rest =>
           obtain ⟨ab, nb, cb, rfl, hw⟩ := hcut
           unfold WsP at hw
           obtain ⟨lp9, hlp⟩ : ∃ x, x = lq9 ++ encG BiT.bytes s.D := ⟨_, rfl⟩
           rw [← hlp] at hw
           have HLP2 : Hid (lp9.length ≤ 1890000) := by
            have h1 := encG_length BiT.bytes 200 s.D (fun x hx => BiT.blen x (HD9.out x hx))
            have h2 := HN9.out
            have h3 := HLQ.out
            show _ ≤ _
            rw [hlp, List.length_append]
            omega
           have HLP := HLP2
           clear HLP2 HLQ HBK HYK
           have HM9 := Lh hlp
           clear hlp
           have hyk : okI [(n10 : Int)] := by
            have h := HN10.out
            intro m hm
            simp only [List.mem_cons, List.not_mem_nil, or_false] at hm
            omega
           have nm := BK.num hw ((Below.refl _ _).alloc (Nat.le_refl _) (.cells #[(n10 : Int)] 3)) (Is.block (l := [(n10 : Int)]) (cap := 1) (heap_alloc_new _ _) (by simp) (by simp [maxLen])) hyk (by simp) (Nat.le_trans HLP.out (by decide)) (Nat.le_refl _)
           have hbw := hw.box HBOX.out HNE.out
           have qs := hbw.cell (j := 14) rfl
           have HYK := Lh hyk
           clear hbw hyk hw
           go_wp2_with fail
           refine nm.mono ?_
           clear nm qs
           rintro e w2 ⟨ab, nb, cb, rfl, hbk⟩
           obtain ⟨lq10, hlq⟩ : ∃ x, x = lp9 ++ encIs [(n10 : Int)] := ⟨_, rfl⟩
           rw [← hlq] at hbk
           have hq9 := encIs_length [(n10 : Int)] HYK.out
           have HLQ : Hid (lq10.length ≤ 1891000) := by have h2 := HLP.out; show _ ≤ _; rw [hlq]; rw [List.length_append]; simp at hq9 h2; omega
           have HL10 := Lh hlq
           have HBK := Lh hbk
           clear hbk hlq hq9
           go_upto_block 18 with fail
           go_cut [4] (fun v4 wx => ∃ a n c, v4 = .slice a n c ∧ WsP w1 (lq10 ++ encG SeT.bytes s.S) a n c wx)
           case first =>
            refine ws_sea HBOX HNE (Lh rfl) HR10 HN10 HD10 HRW (Lh (Nat.le_trans HLQ.out (by decide))) HBK ?_
            intros
            rename_i a n c wx hx
            have HX := Lh hx
            clear hx
            go_wp2_with fail
            go_meet
            exact ⟨_, _, _, rfl, HX.out⟩
           case rest =>
            obtain ⟨ab, nb, cb, rfl, hw⟩ := hcut
            unfold WsP at hw
            obtain ⟨lp10, hlp⟩ : ∃ x, x = lq10 ++ encG SeT.bytes s.S := ⟨_, rfl⟩
            rw [← hlp] at hw
            have HM10 := Lh hlp
            clear hlp
            have HFIN : Hid (lp10 = s.bytes) := by
             show _ = _
             have hl : ∀ {α : Type} (f : α → List UInt8) (L : List α) (n : Nat), n = L.length → n ≤ 1024 → lwG f L = encIs [(n : Int)] ++ encG f L := fun f L n h1 h2 => by
              unfold lwG
              rw [if_neg (by omega), h1]
             unfold StT.bytes rollB bookB
             rw [hl MbT.bytes s.M n1 HN1.out.1 (by have := HN1.out; omega), hl InT.bytes s.I n2 HN2.out.1 (by have := HN2.out; omega), hl AsT.bytes s.A n3 HN3.out.1 (by have := HN3.out; omega), hl TrT.bytes s.T n4 HN4.out.1 (by have := HN4.out; omega), hl PoT.bytes s.P n5 HN5.out.1 (by have := HN5.out; omega), hl BaT.bytes s.B n6 HN6.out.1 (by have := HN6.out; omega), hl PlT.bytes s.G n7 HN7.out.1 (by have := HN7.out; omega), hl CaT.bytes s.C n8 HN8.out.1 (by have := HN8.out; omega), hl BiT.bytes s.D n9 HN9.out.1 (by have := HN9.out; omega), hl SeT.bytes s.S n10 HN10.out.1 (by have := HN10.out; omega), ← HYS.out.1, ← HYS.out.2.1, ← HYS.out.2.2.1, ← HYS.out.2.2.2.1, ← HYS.out.2.2.2.2]
             rw [HM10.out, HL10.out, HM9.out, HL9.out, HM8.out, HL8.out, HM7.out, HL7.out, HM6.out, HL6.out, HM5.out, HL5.out, HM4.out, HL4.out, HM3.out, HL3.out, HM2.out, HL2.out, HM1.out, HL1.out]
             rw [show encIs [y0, y1, y2, (n1 : Int)] = encIs [y0, y1, y2] ++ encIs [(n1 : Int)] from encIs_app [y0, y1, y2] [(n1 : Int)], show encIs [yb, (n4 : Int)] = encIs [yb] ++ encIs [(n4 : Int)] from encIs_app [yb] [(n4 : Int)], show encIs [yl, (n6 : Int)] = encIs [yl] ++ encIs [(n6 : Int)] from encIs_app [yl] [(n6 : Int)]]
             simp only [List.append_assoc]
            have hb2 := kept_no hw.2.1
            have ho := hw.1
            obtain ⟨a', c', hv, _⟩ := ho.bs.shape
            injection hv with e1 e2 e3
            subst e1 e2 e3
            have HO := Lh ho
            have HBZ := Lh (bgo HB2.out hb2 HB2.out.size)
            clear hw hb2 ho
            by_cases hlong : 65536 < lp10.length
            ·
             have sz := sized_any wc ab cb lp10 6 (.slice none 0 0) (.inl ⟨hlong, rfl, rfl⟩)
             have HE : Hid (bE false lp10 = 6 ∧ bL false lp10 = []) := by show _ ∧ _; unfold bE bL; simp [hlong]
             clear hlong
             go_wp2_with fail
             refine sz.mono ?_
             clear sz
             rintro e w3 ⟨rfl, rfl⟩
             go_wp2_with fail
             go_ret2
             exact ⟨none, 0, 0, by rw [← HFIN.out, HE.out.1]; rfl, by rw [← HFIN.out, HE.out.2]; exact OwnB.empty _ _ _, HBZ.out⟩
            ·
             have sz := sized_any wc ab cb lp10 0 (.slice ab lp10.length cb) (.inr ⟨hlong, rfl, rfl⟩)
             have HE : Hid (bE false lp10 = 0 ∧ bL false lp10 = lp10) := by show _ ∧ _; unfold bE bL; simp [hlong]
             clear hlong
             go_wp2_with fail
             refine sz.mono ?_
             clear sz
             rintro e w3 ⟨rfl, rfl⟩
             go_wp2_with fail
             go_ret2
             exact ⟨ab, _, cb, by rw [← HFIN.out, HE.out.1]; rfl, by rw [← HFIN.out, HE.out.2]; exact OwnB.base HO.out HB2.out.size, HBZ.out⟩
end Cam
