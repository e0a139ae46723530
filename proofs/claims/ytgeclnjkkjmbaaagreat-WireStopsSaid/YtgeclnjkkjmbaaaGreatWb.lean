import Derived.Test.YtgeclnjkkjmbaaaGreatVf
import Derived.Test.YtgeclnjkkjmbaaaGreatWtM
import Derived.Test.YtgeclnjkkjmbaaaGreatKu
import Derived.Test.YtgeclnjkkjmbaaaGreatWrL
import Derived.Deep.DeepCutAuto
/- WireBack: the walk. -/
namespace Cam
open Go Go.RowKit Go.Proofs

theorem wpList_load_row_w {P : Program} {ops : Array Oper} {rest : List Oper} {o : Oper} {a : Act} {w : World} {Q : Exit → Act → World → Prop} (hw : Region.wanted o (yielded ops a.tmps) = true) (ty : TypeId) (x : Operand) (ho : o.op = .load ty x)
    (g : Nat) (hx : a.eval x = .pointer (some ⟨g, 0, none⟩)) (t : TypeId) (cs : Array Value) (fr : Nat × Nat) (d : TypeDesc) (hg : w.heap[g]? = some (.cells cs t fr))
    (hu : P.underlying ty = some d) (hd : (match d with | .struct _ | .array _ _ => true | _ => false) = true) (hi : (P.info? ty).map (·.size) = some cs.size)
    (h : wpList P ops Q rest (a.put o.dst (.agg cs)) w) : wpList P ops Q (o :: rest) a w :=
  wpList_step fun K hK => by simp only [hw, if_true]; exact wp_load_row ty x ho g hx t cs fr d hg hu hd hi (hK _ _ h)
theorem StC.mono {w w' : World} {a1 : Option Addr} {n1 c1 : Nat} {a2 : Option Addr} {n2 c2 : Nat} {a3 : Option Addr} {n3 c3 : Nat} {a4 : Option Addr} {n4 c4 : Nat} {a5 : Option Addr} {n5 c5 : Nat} {a6 : Option Addr} {n6 c6 : Nat} {a7 : Option Addr} {n7 c7 : Nat} {a8 : Option Addr} {n8 c8 : Nat} {a9 : Option Addr} {n9 c9 : Nat} {a10 : Option Addr} {n10 c10 : Nat} {L : List SV} {s : StT} (h : StC w a1 n1 c1 a2 n2 c2 a3 n3 c3 a4 n4 c4 a5 n5 c5 a6 n6 c6 a7 n7 c7 a8 n8 c8 a9 n9 c9 a10 n10 c10 L s) (hb : Below w.heap.size w w') : StC w' a1 n1 c1 a2 n2 c2 a3 n3 c3 a4 n4 c4 a5 n5 c5 a6 n6 c6 a7 n7 c7 a8 n8 c8 a9 n9 c9 a10 n10 c10 L s := by
  obtain ⟨r1, r2, r3, r4, r5, r6, r7, r8, r9, r10, hlm, hsv⟩ := h
  exact ⟨r1.mono hb, r2.mono hb, r3.mono hb, r4.mono hb, r5.mono hb, r6.mono hb, r7.mono hb, r8.mono hb, r9.mono hb, r10.mono hb, hlm, fun i h h' => (hsv i h h').mono hb⟩
theorem bE_cases (b : Bool) (l : List UInt8) : (bE b l = 0 ∧ bL b l = l ∧ b = false ∧ l.length ≤ 65536) ∨ bE b l = 6 := by
  unfold bE bL
  by_cases h : b = true ∨ 65536 < l.length
  · exact .inr (by rw [if_pos h])
  · refine .inl ⟨by rw [if_neg h], by rw [if_neg h], ?_, by omega⟩
    cases b
    · rfl
    · exact absurd (.inl rfl) h
set_option maxRecDepth 100000 in
set_option maxHeartbeats 6400000 in
theorem WireBack_walk (w : World) (x0 x1 x2 x3 x4 x5 x6 x7 x8 x9 x10 x11 x12 x13 x14 x15 x16 : Int) (hrx : okI [x0, x1, x2, x3, x4, x5, x6, x7, x8, x9, x10, x11, x12, x13, x14, x15, x16]) (xc xn xa : Int) (vd vf : Value) (D : List DT) (F : List FT) (hrr : okI [xc, xn, xa]) (hd : Rs DT.vs 3 w vd D) (hf : Rs FT.vs 8 w vf F) (kd : ∀ x ∈ D, okI x.ints) (kf : ∀ x ∈ F, okI x.ints) (a1 : Option Addr) (n1 c1 : Nat) (a2 : Option Addr) (n2 c2 : Nat) (a3 : Option Addr) (n3 c3 : Nat) (a4 : Option Addr) (n4 c4 : Nat) (a5 : Option Addr) (n5 c5 : Nat) (a6 : Option Addr) (n6 c6 : Nat) (a7 : Option Addr) (n7 c7 : Nat) (a8 : Option Addr) (n8 c8 : Nat) (a9 : Option Addr) (n9 c9 : Nat) (a10 : Option Addr) (n10 c10 : Nat) (L : List SV) (s : StT) (hst : StC w a1 n1 c1 a2 n2 c2 a3 n3 c3 a4 n4 c4 a5 n5 c5 a6 n6 c6 a7 n7 c7 a8 n8 c8 a9 n9 c9 a10 n10 c10 L s) (hok : s.ok) :
    Calls Tryz.prog 4 #[.agg #[.int .i64 x0, .int .i64 x1, .int .i64 x2, .int .i64 x3, .int .i64 x4, .int .i64 x5, .int .i64 x6, .int .i64 x7, .int .i64 x8, .int .i64 x9, .int .i64 x10, .int .i64 x11, .int .i64 x12, .int .i64 x13, .int .i64 x14, .int .i64 x15, .int .i64 x16], .agg #[.int .i64 xc, .int .i64 xn, .int .i64 xa, vd, vf], .agg #[.int .i64 s.now, .int .i64 s.day, .int .i64 s.ph, .slice a1 n1 c1, .slice a2 n2 c2, .slice a3 n3 c3, .int .i64 s.nx, .slice a4 n4 c4, .slice a5 n5 c5, .int .i64 s.la, .slice a6 n6 c6, .slice a7 n7 c7, .slice a8 n8 c8, .slice a9 n9 c9, .slice a10 n10 c10]] w fun e w' => e = .returned (.bool true) ∧ Below w.heap.size w w' := by
  obtain ⟨ad, cd, rfl, _, _⟩ := hd.shape
  obtain ⟨af, cf, rfl, _, _⟩ := hf.shape
  have hb1 : Below w.heap.size w (w.alloc (.cells #[.int .i64 x0, .int .i64 x1, .int .i64 x2, .int .i64 x3, .int .i64 x4, .int .i64 x5, .int .i64 x6, .int .i64 x7, .int .i64 x8, .int .i64 x9, .int .i64 x10, .int .i64 x11, .int .i64 x12, .int .i64 x13, .int .i64 x14, .int .i64 x15, .int .i64 x16] 59)) := (Below.refl _ _).alloc (Nat.le_refl _) _
  have hb2 : Below w.heap.size w ((w.alloc (.cells #[.int .i64 x0, .int .i64 x1, .int .i64 x2, .int .i64 x3, .int .i64 x4, .int .i64 x5, .int .i64 x6, .int .i64 x7, .int .i64 x8, .int .i64 x9, .int .i64 x10, .int .i64 x11, .int .i64 x12, .int .i64 x13, .int .i64 x14, .int .i64 x15, .int .i64 x16] 59)).alloc (.cells #[.int .i64 xc, .int .i64 xn, .int .i64 xa, .slice ad D.length cd, .slice af F.length cf] 63)) := hb1.alloc hb1.size _
  have hb3 : Below w.heap.size w (((w.alloc (.cells #[.int .i64 x0, .int .i64 x1, .int .i64 x2, .int .i64 x3, .int .i64 x4, .int .i64 x5, .int .i64 x6, .int .i64 x7, .int .i64 x8, .int .i64 x9, .int .i64 x10, .int .i64 x11, .int .i64 x12, .int .i64 x13, .int .i64 x14, .int .i64 x15, .int .i64 x16] 59)).alloc (.cells #[.int .i64 xc, .int .i64 xn, .int .i64 xa, .slice ad D.length cd, .slice af F.length cf] 63)).alloc (.cells #[.int .i64 s.now, .int .i64 s.day, .int .i64 s.ph, .slice a1 n1 c1, .slice a2 n2 c2, .slice a3 n3 c3, .int .i64 s.nx, .slice a4 n4 c4, .slice a5 n5 c5, .int .i64 s.la, .slice a6 n6 c6, .slice a7 n7 c7, .slice a8 n8 c8, .slice a9 n9 c9, .slice a10 n10 c10] 41)) := hb2.alloc hb2.size _
  have hc : HT (((w.alloc (.cells #[.int .i64 x0, .int .i64 x1, .int .i64 x2, .int .i64 x3, .int .i64 x4, .int .i64 x5, .int .i64 x6, .int .i64 x7, .int .i64 x8, .int .i64 x9, .int .i64 x10, .int .i64 x11, .int .i64 x12, .int .i64 x13, .int .i64 x14, .int .i64 x15, .int .i64 x16] 59)).alloc (.cells #[.int .i64 xc, .int .i64 xn, .int .i64 xa, .slice ad D.length cd, .slice af F.length cf] 63)).alloc (.cells #[.int .i64 s.now, .int .i64 s.day, .int .i64 s.ph, .slice a1 n1 c1, .slice a2 n2 c2, .slice a3 n3 c3, .int .i64 s.nx, .slice a4 n4 c4, .slice a5 n5 c5, .int .i64 s.la, .slice a6 n6 c6, .slice a7 n7 c7, .slice a8 n8 c8, .slice a9 n9 c9, .slice a10 n10 c10] 41)) w.heap.size 59 [.int .i64 x0, .int .i64 x1, .int .i64 x2, .int .i64 x3, .int .i64 x4, .int .i64 x5, .int .i64 x6, .int .i64 x7, .int .i64 x8, .int .i64 x9, .int .i64 x10, .int .i64 x11, .int .i64 x12, .int .i64 x13, .int .i64 x14, .int .i64 x15, .int .i64 x16] := ((HT.new (w := w)).below ((Below.refl _ _).alloc (Nat.le_refl _) _)).below ((Below.refl _ _).alloc (Nat.le_refl _) _)
  have hr : HT (((w.alloc (.cells #[.int .i64 x0, .int .i64 x1, .int .i64 x2, .int .i64 x3, .int .i64 x4, .int .i64 x5, .int .i64 x6, .int .i64 x7, .int .i64 x8, .int .i64 x9, .int .i64 x10, .int .i64 x11, .int .i64 x12, .int .i64 x13, .int .i64 x14, .int .i64 x15, .int .i64 x16] 59)).alloc (.cells #[.int .i64 xc, .int .i64 xn, .int .i64 xa, .slice ad D.length cd, .slice af F.length cf] 63)).alloc (.cells #[.int .i64 s.now, .int .i64 s.day, .int .i64 s.ph, .slice a1 n1 c1, .slice a2 n2 c2, .slice a3 n3 c3, .int .i64 s.nx, .slice a4 n4 c4, .slice a5 n5 c5, .int .i64 s.la, .slice a6 n6 c6, .slice a7 n7 c7, .slice a8 n8 c8, .slice a9 n9 c9, .slice a10 n10 c10] 41)) (w.heap.size + 1) 63 [.int .i64 xc, .int .i64 xn, .int .i64 xa, .slice ad D.length cd, .slice af F.length cf] := by
    have := (HT.new (w := w.alloc (.cells #[.int .i64 x0, .int .i64 x1, .int .i64 x2, .int .i64 x3, .int .i64 x4, .int .i64 x5, .int .i64 x6, .int .i64 x7, .int .i64 x8, .int .i64 x9, .int .i64 x10, .int .i64 x11, .int .i64 x12, .int .i64 x13, .int .i64 x14, .int .i64 x15, .int .i64 x16] 59)) (t := 63) (C := [.int .i64 xc, .int .i64 xn, .int .i64 xa, .slice ad D.length cd, .slice af F.length cf])).below ((Below.refl _ _).alloc (Nat.le_refl _) (.cells #[.int .i64 s.now, .int .i64 s.day, .int .i64 s.ph, .slice a1 n1 c1, .slice a2 n2 c2, .slice a3 n3 c3, .int .i64 s.nx, .slice a4 n4 c4, .slice a5 n5 c5, .int .i64 s.la, .slice a6 n6 c6, .slice a7 n7 c7, .slice a8 n8 c8, .slice a9 n9 c9, .slice a10 n10 c10] 41))
    rw [show (w.alloc (.cells #[.int .i64 x0, .int .i64 x1, .int .i64 x2, .int .i64 x3, .int .i64 x4, .int .i64 x5, .int .i64 x6, .int .i64 x7, .int .i64 x8, .int .i64 x9, .int .i64 x10, .int .i64 x11, .int .i64 x12, .int .i64 x13, .int .i64 x14, .int .i64 x15, .int .i64 x16] 59)).heap.size = w.heap.size + 1 by simp] at this
    exact this
  have hs : HT (((w.alloc (.cells #[.int .i64 x0, .int .i64 x1, .int .i64 x2, .int .i64 x3, .int .i64 x4, .int .i64 x5, .int .i64 x6, .int .i64 x7, .int .i64 x8, .int .i64 x9, .int .i64 x10, .int .i64 x11, .int .i64 x12, .int .i64 x13, .int .i64 x14, .int .i64 x15, .int .i64 x16] 59)).alloc (.cells #[.int .i64 xc, .int .i64 xn, .int .i64 xa, .slice ad D.length cd, .slice af F.length cf] 63)).alloc (.cells #[.int .i64 s.now, .int .i64 s.day, .int .i64 s.ph, .slice a1 n1 c1, .slice a2 n2 c2, .slice a3 n3 c3, .int .i64 s.nx, .slice a4 n4 c4, .slice a5 n5 c5, .int .i64 s.la, .slice a6 n6 c6, .slice a7 n7 c7, .slice a8 n8 c8, .slice a9 n9 c9, .slice a10 n10 c10] 41)) (w.heap.size + 2) 41 [.int .i64 s.now, .int .i64 s.day, .int .i64 s.ph, .slice a1 n1 c1, .slice a2 n2 c2, .slice a3 n3 c3, .int .i64 s.nx, .slice a4 n4 c4, .slice a5 n5 c5, .int .i64 s.la, .slice a6 n6 c6, .slice a7 n7 c7, .slice a8 n8 c8, .slice a9 n9 c9, .slice a10 n10 c10] := by
    have := HT.new (w := (w.alloc (.cells #[.int .i64 x0, .int .i64 x1, .int .i64 x2, .int .i64 x3, .int .i64 x4, .int .i64 x5, .int .i64 x6, .int .i64 x7, .int .i64 x8, .int .i64 x9, .int .i64 x10, .int .i64 x11, .int .i64 x12, .int .i64 x13, .int .i64 x14, .int .i64 x15, .int .i64 x16] 59)).alloc (.cells #[.int .i64 xc, .int .i64 xn, .int .i64 xa, .slice ad D.length cd, .slice af F.length cf] 63)) (t := 41) (C := [.int .i64 s.now, .int .i64 s.day, .int .i64 s.ph, .slice a1 n1 c1, .slice a2 n2 c2, .slice a3 n3 c3, .int .i64 s.nx, .slice a4 n4 c4, .slice a5 n5 c5, .int .i64 s.la, .slice a6 n6 c6, .slice a7 n7 c7, .slice a8 n8 c8, .slice a9 n9 c9, .slice a10 n10 c10])
    rw [show ((w.alloc (.cells #[.int .i64 x0, .int .i64 x1, .int .i64 x2, .int .i64 x3, .int .i64 x4, .int .i64 x5, .int .i64 x6, .int .i64 x7, .int .i64 x8, .int .i64 x9, .int .i64 x10, .int .i64 x11, .int .i64 x12, .int .i64 x13, .int .i64 x14, .int .i64 x15, .int .i64 x16] 59)).alloc (.cells #[.int .i64 xc, .int .i64 xn, .int .i64 xa, .slice ad D.length cd, .slice af F.length cf] 63)).heap.size = w.heap.size + 2 by simp] at this
    exact this
  have hstm : ∀ w', Below w.heap.size w w' → StC w' a1 n1 c1 a2 n2 c2 a3 n3 c3 a4 n4 c4 a5 n5 c5 a6 n6 c6 a7 n7 c7 a8 n8 c8 a9 n9 c9 a10 n10 c10 L s := fun w' hb => by
    obtain ⟨r1, r2, r3, r4, r5, r6, r7, r8, r9, r10, hlm, hsv⟩ := hst
    exact ⟨r1.mono hb, r2.mono hb, r3.mono hb, r4.mono hb, r5.mono hb, r6.mono hb, r7.mono hb, r8.mono hb, r9.mono hb, r10.mono hb, hlm, fun i h h' => (hsv i h h').mono hb⟩
  have HSZC : Hid ((Tryz.prog.info? 59).map (·.size) = some (#[.int .i64 x0, .int .i64 x1, .int .i64 x2, .int .i64 x3, .int .i64 x4, .int .i64 x5, .int .i64 x6, .int .i64 x7, .int .i64 x8, .int .i64 x9, .int .i64 x10, .int .i64 x11, .int .i64 x12, .int .i64 x13, .int .i64 x14, .int .i64 x15, .int .i64 x16] : Array Value).size) := by show _ = _; rw [cmdSize]; rfl
  have HSZR : Hid ((Tryz.prog.info? 63).map (·.size) = some (#[.int .i64 xc, .int .i64 xn, .int .i64 xa, .slice ad D.length cd, .slice af F.length cf] : Array Value).size) := by show _ = _; rw [repSz]; rfl
  have HSZS : Hid ((Tryz.prog.info? 41).map (·.size) = some (#[.int .i64 s.now, .int .i64 s.day, .int .i64 s.ph, .slice a1 n1 c1, .slice a2 n2 c2, .slice a3 n3 c3, .int .i64 s.nx, .slice a4 n4 c4, .slice a5 n5 c5, .int .i64 s.la, .slice a6 n6 c6, .slice a7 n7 c7, .slice a8 n8 c8, .slice a9 n9 c9, .slice a10 n10 c10] : Array Value).size) := by show _ = _; rw [stSz]; rfl
  have lg := long_any (((w.alloc (.cells #[.int .i64 x0, .int .i64 x1, .int .i64 x2, .int .i64 x3, .int .i64 x4, .int .i64 x5, .int .i64 x6, .int .i64 x7, .int .i64 x8, .int .i64 x9, .int .i64 x10, .int .i64 x11, .int .i64 x12, .int .i64 x13, .int .i64 x14, .int .i64 x15, .int .i64 x16] 59)).alloc (.cells #[.int .i64 xc, .int .i64 xn, .int .i64 xa, .slice ad D.length cd, .slice af F.length cf] 63)).alloc (.cells #[.int .i64 s.now, .int .i64 s.day, .int .i64 s.ph, .slice a1 n1 c1, .slice a2 n2 c2, .slice a3 n3 c3, .int .i64 s.nx, .slice a4 n4 c4, .slice a5 n5 c5, .int .i64 s.la, .slice a6 n6 c6, .slice a7 n7 c7, .slice a8 n8 c8, .slice a9 n9 c9, .slice a10 n10 c10] 41)) xc xn xa _ _ D F (hd.mono hb3) (hf.mono hb3)
  obtain ⟨Lg, hLg⟩ : ∃ x, x = repL D F := ⟨_, rfl⟩
  rw [← hLg] at lg
  obtain ⟨H, hH⟩ : ∃ H, H = stHeavy s := ⟨_, rfl⟩
  have HHH := Lib.hid hH
  have HLG := Lib.hid hLg
  have HB0 := Lib.hid hb3
  have HC0 := Lib.hid hc
  have HR0 := Lib.hid hr
  have HS0 := Lib.hid hs
  have HST := Lib.hid hstm
  have HOK := Lib.hid hok
  have HRX := Lib.hid hrx
  have HRR := Lib.hid hrr
  have HKD := Lib.hid kd
  have HKF := Lib.hid kf
  have HD0 : Hid (∀ w', Below w.heap.size w w' → Rs DT.vs 3 w' (.slice ad D.length cd) D) := fun w' hb => hd.mono hb
  have HF0 : Hid (∀ w', Below w.heap.size w w' → Rs FT.vs 8 w' (.slice af F.length cf) F) := fun w' hb => hf.mono hb
  have HGR : Hid ((((w.alloc (.cells #[.int .i64 x0, .int .i64 x1, .int .i64 x2, .int .i64 x3, .int .i64 x4, .int .i64 x5, .int .i64 x6, .int .i64 x7, .int .i64 x8, .int .i64 x9, .int .i64 x10, .int .i64 x11, .int .i64 x12, .int .i64 x13, .int .i64 x14, .int .i64 x15, .int .i64 x16] 59)).alloc (.cells #[.int .i64 xc, .int .i64 xn, .int .i64 xa, .slice ad D.length cd, .slice af F.length cf] 63)).alloc (.cells #[.int .i64 s.now, .int .i64 s.day, .int .i64 s.ph, .slice a1 n1 c1, .slice a2 n2 c2, .slice a3 n3 c3, .int .i64 s.nx, .slice a4 n4 c4, .slice a5 n5 c5, .int .i64 s.la, .slice a6 n6 c6, .slice a7 n7 c7, .slice a8 n8 c8, .slice a9 n9 c9, .slice a10 n10 c10] 41)).heap[w.heap.size + 1]? = some (.cells #[.int .i64 xc, .int .i64 xn, .int .i64 xa, .slice ad D.length cd, .slice af F.length cf] 63 (0, 0))) := HR0.out
  clear hb1 hb2 hb3 hc hr hs hst hstm hok hH hLg hrx hrr kd kf hd hf
  go_enter Tryz.func4, Tryz.ntmps4
  go_wp2_with (first
    | (refine wpList_load_row rfl 63 (.tmp 4) rfl (w.heap.size + 1) rfl 63 #[.int .i64 xc, .int .i64 xn, .int .i64 xa, .slice ad D.length cd, .slice af F.length cf] (0, 0) _ HGR.out Tryz.underlying63 rfl HSZR.out ?_)
    | fail)
  refine lg.mono ?_
  clear lg HGR
  generalize hW : (((w.alloc (.cells #[.int .i64 x0, .int .i64 x1, .int .i64 x2, .int .i64 x3, .int .i64 x4, .int .i64 x5, .int .i64 x6, .int .i64 x7, .int .i64 x8, .int .i64 x9, .int .i64 x10, .int .i64 x11, .int .i64 x12, .int .i64 x13, .int .i64 x14, .int .i64 x15, .int .i64 x16] 59)).alloc (.cells #[.int .i64 xc, .int .i64 xn, .int .i64 xa, .slice ad D.length cd, .slice af F.length cf] 63)).alloc (.cells #[.int .i64 s.now, .int .i64 s.day, .int .i64 s.ph, .slice a1 n1 c1, .slice a2 n2 c2, .slice a3 n3 c3, .int .i64 s.nx, .slice a4 n4 c4, .slice a5 n5 c5, .int .i64 s.la, .slice a6 n6 c6, .slice a7 n7 c7, .slice a8 n8 c8, .slice a9 n9 c9, .slice a10 n10 c10] 41)) = W at *
  clear hW
  rintro e w1 ⟨rfl, hb⟩
  have HB1 := Lib.hid (bgo HB0.out hb HB0.out.size)
  have HC1 := Lib.hid (HC0.out.below hb)
  have HR1 := Lib.hid (HR0.out.below hb)
  have HS1 := Lib.hid (HS0.out.below hb)
  clear hb HC0 HR0 HS0
  cases Lg with
  | true =>
    go_wp2_with fail
    go_ret
    exact ⟨rfl, HB1.out⟩
  | false =>
    have hv := Heavy_any w1 a1 n1 c1 a2 n2 c2 a3 n3 c3 a4 n4 c4 a5 n5 c5 a6 n6 c6 a7 n7 c7 a8 n8 c8 a9 n9 c9 a10 n10 c10 L s (HST.out _ HB1.out)
    rw [← HHH.out] at hv
    have HGS : Hid (w1.heap[w.heap.size + 2]? = some (.cells #[.int .i64 s.now, .int .i64 s.day, .int .i64 s.ph, .slice a1 n1 c1, .slice a2 n2 c2, .slice a3 n3 c3, .int .i64 s.nx, .slice a4 n4 c4, .slice a5 n5 c5, .int .i64 s.la, .slice a6 n6 c6, .slice a7 n7 c7, .slice a8 n8 c8, .slice a9 n9 c9, .slice a10 n10 c10] 41 (0, 0))) := HS1.out
    go_wp2_with (first
      | (refine wpList_load_row_w (by first | rfl | simp [Region.wanted, yielded]) 41 (.tmp 5) rfl (w.heap.size + 2) rfl 41 #[.int .i64 s.now, .int .i64 s.day, .int .i64 s.ph, .slice a1 n1 c1, .slice a2 n2 c2, .slice a3 n3 c3, .int .i64 s.nx, .slice a4 n4 c4, .slice a5 n5 c5, .int .i64 s.la, .slice a6 n6 c6, .slice a7 n7 c7, .slice a8 n8 c8, .slice a9 n9 c9, .slice a10 n10 c10] (0, 0) _ HGS.out Tryz.underlying41 rfl HSZS.out ?_)
      | fail)
    refine hv.mono ?_
    clear hv HGS
    rintro e w2 ⟨rfl, hb⟩
    have HB2 := Lib.hid (bgo HB1.out hb HB1.out.size)
    have HC2 := Lib.hid (HC1.out.below hb)
    have HR2 := Lib.hid (HR1.out.below hb)
    have HS2 := Lib.hid (HS1.out.below hb)
    clear hb HC1 HR1 HS1
    cases H with
    | true =>
      go_wp2_with fail
      go_ret
      exact ⟨rfl, HB2.out⟩
    | false =>
      have hno := stHeavy_no HHH.out.symm
      have hsz : (encG SeT.bytes s.S).length ≤ 50000000 := by
        have h1 := encG_length SeT.bytes 200100 s.S (fun x hx => SeT.blen x (HOK.out.S x hx))
        have h2 : s.S.length ≤ 100 := hno.2.2.2.2.2.2.2.2.2.1
        have h3 : s.S.length * 200100 ≤ 100 * 200100 := Nat.mul_le_mul_right _ h2
        omega
      have HSZ := Lib.hid hsz
      have cm := Cmd_any w2 x0 x1 x2 x3 x4 x5 x6 x7 x8 x9 x10 x11 x12 x13 x14 x15 x16 HRX.out
      unfold RetB at cm
      obtain ⟨l, hl⟩ : ∃ l, l = encIs [x0, x1, x2, x3, x4, x5, x6, x7, x8, x9, x10, x11, x12, x13, x14, x15, x16] := ⟨_, rfl⟩
      rw [← hl] at cm
      have hrd : readC l = ([x0, x1, x2, x3, x4, x5, x6, x7, x8, x9, x10, x11, x12, x13, x14, x15, x16], 0) := by rw [hl]; exact readC_enc _ rfl HRX.out
      have hll : l.length ≤ 170 := by have := encIs_length _ HRX.out; rw [← hl] at this; simp at this; omega
      have HRD := Lib.hid hrd
      have HLL := Lib.hid hll
      have HGC : Hid (w2.heap[w.heap.size]? = some (.cells #[.int .i64 x0, .int .i64 x1, .int .i64 x2, .int .i64 x3, .int .i64 x4, .int .i64 x5, .int .i64 x6, .int .i64 x7, .int .i64 x8, .int .i64 x9, .int .i64 x10, .int .i64 x11, .int .i64 x12, .int .i64 x13, .int .i64 x14, .int .i64 x15, .int .i64 x16] 59 (0, 0))) := HC2.out
      clear hno hsz hl hrd hll
      go_wp2_with (first
        | (refine wpList_load_row rfl 59 (.tmp 3) rfl w.heap.size rfl 59 #[.int .i64 x0, .int .i64 x1, .int .i64 x2, .int .i64 x3, .int .i64 x4, .int .i64 x5, .int .i64 x6, .int .i64 x7, .int .i64 x8, .int .i64 x9, .int .i64 x10, .int .i64 x11, .int .i64 x12, .int .i64 x13, .int .i64 x14, .int .i64 x15, .int .i64 x16] (0, 0) _ HGC.out Tryz.underlying59 rfl HSZC.out ?_)
        | fail)
      refine cm.mono ?_
      clear cm HGC
      rintro e w3 ⟨v9, rfl, ho, hb⟩
      have HB3 := Lib.hid (bgo HB2.out hb HB2.out.size)
      have HC3 := Lib.hid (HC2.out.below hb)
      have HR3 := Lib.hid (HR2.out.below hb)
      have HS3 := Lib.hid (HS2.out.below hb)
      have rc := ReadCmd_any w3 v9 l ho.bs (by have := HLL.out; omega)
      unfold RcPost at rc
      rw [HRD.out] at rc
      simp only [ivs, List.map_cons, List.map_nil] at rc
      clear hb ho HC2 HR2 HS2
      go_wp2_with fail
      refine rc.mono ?_
      clear rc
      rintro e w4 ⟨rfl, hb⟩
      have HB4 := Lib.hid (bgo HB3.out hb HB3.out.size)
      have HC4 := Lib.hid (HC3.out.below hb)
      have HR4 := Lib.hid (HR3.out.below hb)
      have HS4 := Lib.hid (HS3.out.below hb)
      clear hb HC3 HR3 HS3
      have hbn : Below w4.heap.size w4 (w4.alloc (.cells #[.int .i64 0, .int .i64 0, .int .i64 0, .int .i64 0, .int .i64 0, .int .i64 0, .int .i64 0, .int .i64 0, .int .i64 0, .int .i64 0, .int .i64 0, .int .i64 0, .int .i64 0, .int .i64 0, .int .i64 0, .int .i64 0, .int .i64 0] 59)) := (Below.refl _ _).alloc (Nat.le_refl _) _
      have hbs : Below w4.heap.size w4 ((w4.alloc (.cells #[.int .i64 0, .int .i64 0, .int .i64 0, .int .i64 0, .int .i64 0, .int .i64 0, .int .i64 0, .int .i64 0, .int .i64 0, .int .i64 0, .int .i64 0, .int .i64 0, .int .i64 0, .int .i64 0, .int .i64 0, .int .i64 0, .int .i64 0] 59)).setRow w4.heap.size #[.int .i64 x0, .int .i64 x1, .int .i64 x2, .int .i64 x3, .int .i64 x4, .int .i64 x5, .int .i64 x6, .int .i64 x7, .int .i64 x8, .int .i64 x9, .int .i64 x10, .int .i64 x11, .int .i64 x12, .int .i64 x13, .int .i64 x14, .int .i64 x15, .int .i64 x16]) := hbn.trans (setRow_below (Nat.le_refl _) _)
      have HSE1 : Hid ((#[.int .i64 0, .int .i64 0, .int .i64 0, .int .i64 0, .int .i64 0, .int .i64 0, .int .i64 0, .int .i64 0, .int .i64 0, .int .i64 0, .int .i64 0, .int .i64 0, .int .i64 0, .int .i64 0, .int .i64 0, .int .i64 0, .int .i64 0] : Array Value).size = (#[.int .i64 x0, .int .i64 x1, .int .i64 x2, .int .i64 x3, .int .i64 x4, .int .i64 x5, .int .i64 x6, .int .i64 x7, .int .i64 x8, .int .i64 x9, .int .i64 x10, .int .i64 x11, .int .i64 x12, .int .i64 x13, .int .i64 x14, .int .i64 x15, .int .i64 x16] : Array Value).size) := by show _ = _; rfl
      have HON1 : Hid ((#[.int .i64 x0, .int .i64 x1, .int .i64 x2, .int .i64 x3, .int .i64 x4, .int .i64 x5, .int .i64 x6, .int .i64 x7, .int .i64 x8, .int .i64 x9, .int .i64 x10, .int .i64 x11, .int .i64 x12, .int .i64 x13, .int .i64 x14, .int .i64 x15, .int .i64 x16] : Array Value).all (·.oneCell') = true) := by show _ = true; simp [Value.oneCell']
      have HSZ1 : Hid ((Tryz.prog.info? 59).map (·.size) = some (#[.int .i64 x0, .int .i64 x1, .int .i64 x2, .int .i64 x3, .int .i64 x4, .int .i64 x5, .int .i64 x6, .int .i64 x7, .int .i64 x8, .int .i64 x9, .int .i64 x10, .int .i64 x11, .int .i64 x12, .int .i64 x13, .int .i64 x14, .int .i64 x15, .int .i64 x16] : Array Value).size) := by show _ = _; rw [cmdSize]; rfl
      have HGX : Hid (((w4.alloc (.cells #[.int .i64 0, .int .i64 0, .int .i64 0, .int .i64 0, .int .i64 0, .int .i64 0, .int .i64 0, .int .i64 0, .int .i64 0, .int .i64 0, .int .i64 0, .int .i64 0, .int .i64 0, .int .i64 0, .int .i64 0, .int .i64 0, .int .i64 0] 59)).setRow w4.heap.size #[.int .i64 x0, .int .i64 x1, .int .i64 x2, .int .i64 x3, .int .i64 x4, .int .i64 x5, .int .i64 x6, .int .i64 x7, .int .i64 x8, .int .i64 x9, .int .i64 x10, .int .i64 x11, .int .i64 x12, .int .i64 x13, .int .i64 x14, .int .i64 x15, .int .i64 x16]).heap[w4.heap.size]? = some (.cells #[.int .i64 x0, .int .i64 x1, .int .i64 x2, .int .i64 x3, .int .i64 x4, .int .i64 x5, .int .i64 x6, .int .i64 x7, .int .i64 x8, .int .i64 x9, .int .i64 x10, .int .i64 x11, .int .i64 x12, .int .i64 x13, .int .i64 x14, .int .i64 x15, .int .i64 x16] 59 (0, 0))) := setRow_heap _ _ _ _ _ _ (heap_alloc_new _ _)
      have HBS := Lib.hid hbs
      clear hbn hbs
      have HGC : Hid (((w4.alloc (.cells #[.int .i64 0, .int .i64 0, .int .i64 0, .int .i64 0, .int .i64 0, .int .i64 0, .int .i64 0, .int .i64 0, .int .i64 0, .int .i64 0, .int .i64 0, .int .i64 0, .int .i64 0, .int .i64 0, .int .i64 0, .int .i64 0, .int .i64 0] 59)).setRow w4.heap.size #[.int .i64 x0, .int .i64 x1, .int .i64 x2, .int .i64 x3, .int .i64 x4, .int .i64 x5, .int .i64 x6, .int .i64 x7, .int .i64 x8, .int .i64 x9, .int .i64 x10, .int .i64 x11, .int .i64 x12, .int .i64 x13, .int .i64 x14, .int .i64 x15, .int .i64 x16]).heap[w.heap.size]? = some (.cells #[.int .i64 x0, .int .i64 x1, .int .i64 x2, .int .i64 x3, .int .i64 x4, .int .i64 x5, .int .i64 x6, .int .i64 x7, .int .i64 x8, .int .i64 x9, .int .i64 x10, .int .i64 x11, .int .i64 x12, .int .i64 x13, .int .i64 x14, .int .i64 x15, .int .i64 x16] 59 (0, 0))) := HC4.out.below HBS.out
      have kc := KCmd_any ((w4.alloc (.cells #[.int .i64 0, .int .i64 0, .int .i64 0, .int .i64 0, .int .i64 0, .int .i64 0, .int .i64 0, .int .i64 0, .int .i64 0, .int .i64 0, .int .i64 0, .int .i64 0, .int .i64 0, .int .i64 0, .int .i64 0, .int .i64 0, .int .i64 0] 59)).setRow w4.heap.size #[.int .i64 x0, .int .i64 x1, .int .i64 x2, .int .i64 x3, .int .i64 x4, .int .i64 x5, .int .i64 x6, .int .i64 x7, .int .i64 x8, .int .i64 x9, .int .i64 x10, .int .i64 x11, .int .i64 x12, .int .i64 x13, .int .i64 x14, .int .i64 x15, .int .i64 x16]) x0 x1 x2 x3 x4 x5 x6 x7 x8 x9 x10 x11 x12 x13 x14 x15 x16 x0 x1 x2 x3 x4 x5 x6 x7 x8 x9 x10 x11 x12 x13 x14 x15 x16
      rw [decide_eq_true rfl] at kc
      go_wp2_with (first
        | (refine wpList_store_row rfl 59 (.tmp 7) (.tmp 24) rfl w4.heap.size #[.int .i64 x0, .int .i64 x1, .int .i64 x2, .int .i64 x3, .int .i64 x4, .int .i64 x5, .int .i64 x6, .int .i64 x7, .int .i64 x8, .int .i64 x9, .int .i64 x10, .int .i64 x11, .int .i64 x12, .int .i64 x13, .int .i64 x14, .int .i64 x15, .int .i64 x16] rfl rfl 59 #[.int .i64 0, .int .i64 0, .int .i64 0, .int .i64 0, .int .i64 0, .int .i64 0, .int .i64 0, .int .i64 0, .int .i64 0, .int .i64 0, .int .i64 0, .int .i64 0, .int .i64 0, .int .i64 0, .int .i64 0, .int .i64 0, .int .i64 0] (heap_alloc_new _ _) HSZ1.out HSE1.out HON1.out ?_)
        | (refine wpList_load_row_w (by first | rfl | simp [Region.wanted, yielded]) 59 (.tmp 7) rfl w4.heap.size rfl 59 #[.int .i64 x0, .int .i64 x1, .int .i64 x2, .int .i64 x3, .int .i64 x4, .int .i64 x5, .int .i64 x6, .int .i64 x7, .int .i64 x8, .int .i64 x9, .int .i64 x10, .int .i64 x11, .int .i64 x12, .int .i64 x13, .int .i64 x14, .int .i64 x15, .int .i64 x16] (0, 0) _ HGX.out Tryz.underlying59 rfl HSZC.out ?_)
        | (refine wpList_load_row_w (by first | rfl | simp [Region.wanted, yielded]) 59 (.tmp 3) rfl w.heap.size rfl 59 #[.int .i64 x0, .int .i64 x1, .int .i64 x2, .int .i64 x3, .int .i64 x4, .int .i64 x5, .int .i64 x6, .int .i64 x7, .int .i64 x8, .int .i64 x9, .int .i64 x10, .int .i64 x11, .int .i64 x12, .int .i64 x13, .int .i64 x14, .int .i64 x15, .int .i64 x16] (0, 0) _ HGC.out Tryz.underlying59 rfl HSZC.out ?_)
        | fail)
      refine kc.mono ?_
      clear kc HGX HGC HSE1 HON1 HSZ1
      have HB5 := Lib.hid (bgo HB4.out HBS.out HB4.out.size)
      have HC5 := Lib.hid (HC4.out.below HBS.out)
      have HR5 := Lib.hid (HR4.out.below HBS.out)
      have HS5 := Lib.hid (HS4.out.below HBS.out)
      generalize hW : ((w4.alloc (.cells #[.int .i64 0, .int .i64 0, .int .i64 0, .int .i64 0, .int .i64 0, .int .i64 0, .int .i64 0, .int .i64 0, .int .i64 0, .int .i64 0, .int .i64 0, .int .i64 0, .int .i64 0, .int .i64 0, .int .i64 0, .int .i64 0, .int .i64 0] 59)).setRow w4.heap.size #[.int .i64 x0, .int .i64 x1, .int .i64 x2, .int .i64 x3, .int .i64 x4, .int .i64 x5, .int .i64 x6, .int .i64 x7, .int .i64 x8, .int .i64 x9, .int .i64 x10, .int .i64 x11, .int .i64 x12, .int .i64 x13, .int .i64 x14, .int .i64 x15, .int .i64 x16]) = w5 at *
      clear hW HBS HC4 HR4 HS4
      rintro e w6 ⟨rfl, hb⟩
      have HB6 := Lib.hid (bgo HB5.out hb HB5.out.size)
      have HC6 := Lib.hid (HC5.out.below hb)
      have HR6 := Lib.hid (HR5.out.below hb)
      have HS6 := Lib.hid (HS5.out.below hb)
      clear hb HC5 HR5 HS5
      have rp := Reply_any w6 xc xn xa _ _ D F HRR.out (HD0.out _ HB6.out) (HF0.out _ HB6.out) HKD.out HKF.out
      unfold BytesPost at rp
      obtain ⟨B, hB⟩ : ∃ B, B = encRep xc xn xa D F := ⟨_, rfl⟩
      obtain ⟨bd, hbd⟩ : ∃ B, B = repW D F := ⟨_, rfl⟩
      rw [← hB, ← hbd] at rp
      obtain ⟨E, hE⟩ : ∃ E, E = bE bd B := ⟨_, rfl⟩
      obtain ⟨BB, hBB⟩ : ∃ E, E = bL bd B := ⟨_, rfl⟩
      rw [← hE, ← hBB] at rp
      have hcs := bE_cases bd B
      rw [← hE, ← hBB] at hcs
      have HCS := Lib.hid hcs
      have HBB := Lib.hid (⟨hB, hbd⟩ : _ ∧ _)
      have HGR : Hid (w6.heap[w.heap.size + 1]? = some (.cells #[.int .i64 xc, .int .i64 xn, .int .i64 xa, .slice ad D.length cd, .slice af F.length cf] 63 (0, 0))) := HR6.out
      clear hB hbd hE hBB hcs
      go_wp2_with (first
        | (refine wpList_load_row rfl 63 (.tmp 4) rfl (w.heap.size + 1) rfl 63 #[.int .i64 xc, .int .i64 xn, .int .i64 xa, .slice ad D.length cd, .slice af F.length cf] (0, 0) _ HGR.out Tryz.underlying63 rfl HSZR.out ?_)
        | fail)
      refine rp.mono ?_
      clear rp HGR
      rintro e w7 ⟨ax, nx, cx, rfl, ho, hb⟩
      have HB7 := Lib.hid (bgo HB6.out hb HB6.out.size)
      have HC7 := Lib.hid (HC6.out.below hb)
      have HR7 := Lib.hid (HR6.out.below hb)
      have HS7 := Lib.hid (HS6.out.below hb)
      have HO := Lib.hid ho
      clear hb ho HC6 HR6 HS6
      go_upto_if 40 with fail
      go_cut [] (fun wx => Below w7.heap.size w7 wx)
      case first =>
        rcases HCS.out with ⟨rfl, rfl, rfl, hB65⟩ | rfl
        · have hrd : readRp BB = (⟨xc, xn, xa, D, F⟩, 0) := by
            rw [HBB.out.1]
            exact readRp_enc ⟨xc, xn, xa, D, F⟩ HBB.out.2.symm ⟨HRR.out, HKD.out, HKF.out⟩ (by show (encRep xc xn xa D F).length ≤ _; rw [← HBB.out.1]; exact hB65)
          have rr := ReadReply_any w7 _ BB HO.out.bs (by omega)
          unfold readRpPost at rr
          rw [hrd] at rr
          clear hrd hB65
          go_wp2_with fail
          refine rr.mono ?_
          clear rr
          rintro e w8 ⟨val, rfl, hv, hb⟩
          obtain ⟨u1, un1, uc1, u2, un2, uc2, rfl, o1, o2⟩ := hv
          have HB8 := Lib.hid (bgo HB7.out hb HB7.out.size)
          have HC8 := Lib.hid (HC7.out.below hb)
          have HR8 := Lib.hid (HR7.out.below hb)
          have HS8 := Lib.hid (HS7.out.below hb)
          have HX1 := Lib.hid o1.rs
          have HX2 := Lib.hid o2.rs
          have hb78 := Lib.hid hb
          clear hb o1 o2 HC7 HS7 HR7
          have hbn : Below w8.heap.size w8 (w8.alloc (.cells #[.int .i64 0, .int .i64 0, .int .i64 0, .slice none 0 0, .slice none 0 0] 63)) := (Below.refl _ _).alloc (Nat.le_refl _) _
          have hbs : Below w8.heap.size w8 ((w8.alloc (.cells #[.int .i64 0, .int .i64 0, .int .i64 0, .slice none 0 0, .slice none 0 0] 63)).setRow w8.heap.size #[.int .i64 xc, .int .i64 xn, .int .i64 xa, .slice u1 un1 uc1, .slice u2 un2 uc2]) := hbn.trans (setRow_below (Nat.le_refl _) _)
          have HSE2 : Hid ((#[.int .i64 0, .int .i64 0, .int .i64 0, .slice none 0 0, .slice none 0 0] : Array Value).size = (#[.int .i64 xc, .int .i64 xn, .int .i64 xa, .slice u1 un1 uc1, .slice u2 un2 uc2] : Array Value).size) := by show _ = _; rfl
          have HON2 : Hid ((#[.int .i64 xc, .int .i64 xn, .int .i64 xa, .slice u1 un1 uc1, .slice u2 un2 uc2] : Array Value).all (·.oneCell') = true) := by show _ = true; simp [Value.oneCell']
          have HSZ2 : Hid ((Tryz.prog.info? 63).map (·.size) = some (#[.int .i64 xc, .int .i64 xn, .int .i64 xa, .slice u1 un1 uc1, .slice u2 un2 uc2] : Array Value).size) := by show _ = _; rw [repSz]; rfl
          have HGX : Hid (((w8.alloc (.cells #[.int .i64 0, .int .i64 0, .int .i64 0, .slice none 0 0, .slice none 0 0] 63)).setRow w8.heap.size #[.int .i64 xc, .int .i64 xn, .int .i64 xa, .slice u1 un1 uc1, .slice u2 un2 uc2]).heap[w8.heap.size]? = some (.cells #[.int .i64 xc, .int .i64 xn, .int .i64 xa, .slice u1 un1 uc1, .slice u2 un2 uc2] 63 (0, 0))) := setRow_heap _ _ _ _ _ _ (heap_alloc_new _ _)
          have HBS := Lib.hid hbs
          clear hbn hbs
          have HGR : Hid (((w8.alloc (.cells #[.int .i64 0, .int .i64 0, .int .i64 0, .slice none 0 0, .slice none 0 0] 63)).setRow w8.heap.size #[.int .i64 xc, .int .i64 xn, .int .i64 xa, .slice u1 un1 uc1, .slice u2 un2 uc2]).heap[w.heap.size + 1]? = some (.cells #[.int .i64 xc, .int .i64 xn, .int .i64 xa, .slice ad D.length cd, .slice af F.length cf] 63 (0, 0))) := HR8.out.below HBS.out
          have HBB9 := Lib.hid (bgo HB8.out HBS.out HB8.out.size)
          have kr := KReply_any ((w8.alloc (.cells #[.int .i64 0, .int .i64 0, .int .i64 0, .slice none 0 0, .slice none 0 0] 63)).setRow w8.heap.size #[.int .i64 xc, .int .i64 xn, .int .i64 xa, .slice u1 un1 uc1, .slice u2 un2 uc2]) xc xn xa xc xn xa _ _ _ _ D D F F (HX1.out.mono HBS.out) (HX2.out.mono HBS.out) (HD0.out _ HBB9.out) (HF0.out _ HBB9.out)
          rw [decide_eq_true ⟨rfl, rfl, rfl, rfl, rfl⟩] at kr
          go_wp2_with (first
            | (refine wpList_store_row rfl 63 (.tmp 10) (.tmp 44) rfl w8.heap.size #[.int .i64 xc, .int .i64 xn, .int .i64 xa, .slice u1 un1 uc1, .slice u2 un2 uc2] rfl rfl 63 #[.int .i64 0, .int .i64 0, .int .i64 0, .slice none 0 0, .slice none 0 0] (heap_alloc_new _ _) HSZ2.out HSE2.out HON2.out ?_)
            | (refine wpList_load_row_w (by first | rfl | simp [Region.wanted, yielded]) 63 (.tmp 10) rfl w8.heap.size rfl 63 #[.int .i64 xc, .int .i64 xn, .int .i64 xa, .slice u1 un1 uc1, .slice u2 un2 uc2] (0, 0) _ HGX.out Tryz.underlying63 rfl HSZ2.out ?_)
            | (refine wpList_load_row_w (by first | rfl | simp [Region.wanted, yielded]) 63 (.tmp 4) rfl (w.heap.size + 1) rfl 63 #[.int .i64 xc, .int .i64 xn, .int .i64 xa, .slice ad D.length cd, .slice af F.length cf] (0, 0) _ HGR.out Tryz.underlying63 rfl HSZR.out ?_)
            | fail)
          refine kr.mono ?_
          clear kr HGX HGR HSE2 HON2
          have h79 := Lib.hid (bgo hb78.out HBS.out hb78.out.size)
          generalize hW : ((w8.alloc (.cells #[.int .i64 0, .int .i64 0, .int .i64 0, .slice none 0 0, .slice none 0 0] 63)).setRow w8.heap.size #[.int .i64 xc, .int .i64 xn, .int .i64 xa, .slice u1 un1 uc1, .slice u2 un2 uc2]) = w9 at *
          clear hW HBS
          rintro e wa ⟨rfl, hb⟩
          have h7a := Lib.hid (bgo h79.out hb h79.out.size)
          clear hb
          go_wp2_with fail
          go_meet
          exact h7a.out
        · go_wp2_with fail
          go_meet
          exact Below.refl _ _
      case rest =>
        have HB8 := Lib.hid (bgo HB7.out hcut HB7.out.size)
        have HC8 := Lib.hid (HC7.out.below hcut)
        have HR8 := Lib.hid (HR7.out.below hcut)
        have HS8 := Lib.hid (HS7.out.below hcut)
        clear hcut HC7 HR7 HS7 HCS HBB HO
        have st := State_any wc a1 n1 c1 a2 n2 c2 a3 n3 c3 a4 n4 c4 a5 n5 c5 a6 n6 c6 a7 n7 c7 a8 n8 c8 a9 n9 c9 a10 n10 c10 L s (HST.out _ HB8.out) HOK.out HSZ.out
        obtain ⟨B, hB⟩ : ∃ B, B = s.bytes := ⟨_, rfl⟩
        obtain ⟨bd, hbd⟩ : ∃ B, B = s.bad := ⟨_, rfl⟩
        unfold BytesPost at st
        rw [← hB, ← hbd] at st
        obtain ⟨E, hE⟩ : ∃ E, E = bE bd B := ⟨_, rfl⟩
        obtain ⟨BB, hBB⟩ : ∃ E, E = bL bd B := ⟨_, rfl⟩
        rw [← hE, ← hBB] at st
        have hcs := bE_cases bd B
        rw [← hE, ← hBB] at hcs
        have HCS := Lib.hid hcs
        have HBB := Lib.hid (⟨hB, hbd⟩ : _ ∧ _)
        have HGS : Hid (wc.heap[w.heap.size + 2]? = some (.cells #[.int .i64 s.now, .int .i64 s.day, .int .i64 s.ph, .slice a1 n1 c1, .slice a2 n2 c2, .slice a3 n3 c3, .int .i64 s.nx, .slice a4 n4 c4, .slice a5 n5 c5, .int .i64 s.la, .slice a6 n6 c6, .slice a7 n7 c7, .slice a8 n8 c8, .slice a9 n9 c9, .slice a10 n10 c10] 41 (0, 0))) := HS8.out
        clear hB hbd hE hBB hcs
        go_wp2_with (first
          | (refine wpList_load_row rfl 41 (.tmp 5) rfl (w.heap.size + 2) rfl 41 #[.int .i64 s.now, .int .i64 s.day, .int .i64 s.ph, .slice a1 n1 c1, .slice a2 n2 c2, .slice a3 n3 c3, .int .i64 s.nx, .slice a4 n4 c4, .slice a5 n5 c5, .int .i64 s.la, .slice a6 n6 c6, .slice a7 n7 c7, .slice a8 n8 c8, .slice a9 n9 c9, .slice a10 n10 c10] (0, 0) _ HGS.out Tryz.underlying41 rfl HSZS.out ?_)
          | fail)
        refine st.mono ?_
        clear st HGS
        rintro e wd ⟨ax, nx, cx, rfl, ho, hb⟩
        have HB9 := Lib.hid (bgo HB8.out hb HB8.out.size)
        have HC9 := Lib.hid (HC8.out.below hb)
        have HR9 := Lib.hid (HR8.out.below hb)
        have HS9 := Lib.hid (HS8.out.below hb)
        clear hb HC8 HR8 HS8
        rcases HCS.out with ⟨rfl, rfl, rfl, hB65⟩ | rfl
        · have hrd : readSt BB = (s, 0) := by
            rw [HBB.out.1]
            exact readSt_enc s HBB.out.2.symm HOK.out (by rw [← HBB.out.1]; exact hB65)
          have rs := ReadState_any wd _ BB ho.bs (by omega)
          unfold readStPost at rs
          rw [hrd] at rs
          clear hrd hB65 ho
          go_wp2_with fail
          refine rs.mono ?_
          clear rs
          rintro e we ⟨val, rfl, hv, hb⟩
          obtain ⟨b1, m1, d1, b2, m2, d2, b3, m3, d3, b4, m4, d4, b5, m5, d5, b6, m6, d6, b7, m7, d7, b8, m8, d8, b9, m9, d9, b10, m10, d10, LB, rfl, sc⟩ := StOwn.c hv
          have HBA := Lib.hid (bgo HB9.out hb HB9.out.size)
          have HCA := Lib.hid (HC9.out.below hb)
          have HRA := Lib.hid (HR9.out.below hb)
          have HSA := Lib.hid (HS9.out.below hb)
          have HSC := Lib.hid sc
          clear hb hv sc HC9 HR9 HS9
          have hbn : Below we.heap.size we (we.alloc (.cells #[.int .i64 0, .int .i64 0, .int .i64 0, .slice none 0 0, .slice none 0 0, .slice none 0 0, .int .i64 0, .slice none 0 0, .slice none 0 0, .int .i64 0, .slice none 0 0, .slice none 0 0, .slice none 0 0, .slice none 0 0, .slice none 0 0] 41)) := (Below.refl _ _).alloc (Nat.le_refl _) _
          have hbs : Below we.heap.size we ((we.alloc (.cells #[.int .i64 0, .int .i64 0, .int .i64 0, .slice none 0 0, .slice none 0 0, .slice none 0 0, .int .i64 0, .slice none 0 0, .slice none 0 0, .int .i64 0, .slice none 0 0, .slice none 0 0, .slice none 0 0, .slice none 0 0, .slice none 0 0] 41)).setRow we.heap.size #[.int .i64 s.now, .int .i64 s.day, .int .i64 s.ph, .slice b1 m1 d1, .slice b2 m2 d2, .slice b3 m3 d3, .int .i64 s.nx, .slice b4 m4 d4, .slice b5 m5 d5, .int .i64 s.la, .slice b6 m6 d6, .slice b7 m7 d7, .slice b8 m8 d8, .slice b9 m9 d9, .slice b10 m10 d10]) := hbn.trans (setRow_below (Nat.le_refl _) _)
          have HSE3 : Hid ((#[.int .i64 0, .int .i64 0, .int .i64 0, .slice none 0 0, .slice none 0 0, .slice none 0 0, .int .i64 0, .slice none 0 0, .slice none 0 0, .int .i64 0, .slice none 0 0, .slice none 0 0, .slice none 0 0, .slice none 0 0, .slice none 0 0] : Array Value).size = (#[.int .i64 s.now, .int .i64 s.day, .int .i64 s.ph, .slice b1 m1 d1, .slice b2 m2 d2, .slice b3 m3 d3, .int .i64 s.nx, .slice b4 m4 d4, .slice b5 m5 d5, .int .i64 s.la, .slice b6 m6 d6, .slice b7 m7 d7, .slice b8 m8 d8, .slice b9 m9 d9, .slice b10 m10 d10] : Array Value).size) := by show _ = _; rfl
          have HON3 : Hid ((#[.int .i64 s.now, .int .i64 s.day, .int .i64 s.ph, .slice b1 m1 d1, .slice b2 m2 d2, .slice b3 m3 d3, .int .i64 s.nx, .slice b4 m4 d4, .slice b5 m5 d5, .int .i64 s.la, .slice b6 m6 d6, .slice b7 m7 d7, .slice b8 m8 d8, .slice b9 m9 d9, .slice b10 m10 d10] : Array Value).all (·.oneCell') = true) := by show _ = true; simp [Value.oneCell']
          have HSZ3 : Hid ((Tryz.prog.info? 41).map (·.size) = some (#[.int .i64 s.now, .int .i64 s.day, .int .i64 s.ph, .slice b1 m1 d1, .slice b2 m2 d2, .slice b3 m3 d3, .int .i64 s.nx, .slice b4 m4 d4, .slice b5 m5 d5, .int .i64 s.la, .slice b6 m6 d6, .slice b7 m7 d7, .slice b8 m8 d8, .slice b9 m9 d9, .slice b10 m10 d10] : Array Value).size) := by show _ = _; rw [stSz]; rfl
          have HGX : Hid (((we.alloc (.cells #[.int .i64 0, .int .i64 0, .int .i64 0, .slice none 0 0, .slice none 0 0, .slice none 0 0, .int .i64 0, .slice none 0 0, .slice none 0 0, .int .i64 0, .slice none 0 0, .slice none 0 0, .slice none 0 0, .slice none 0 0, .slice none 0 0] 41)).setRow we.heap.size #[.int .i64 s.now, .int .i64 s.day, .int .i64 s.ph, .slice b1 m1 d1, .slice b2 m2 d2, .slice b3 m3 d3, .int .i64 s.nx, .slice b4 m4 d4, .slice b5 m5 d5, .int .i64 s.la, .slice b6 m6 d6, .slice b7 m7 d7, .slice b8 m8 d8, .slice b9 m9 d9, .slice b10 m10 d10]).heap[we.heap.size]? = some (.cells #[.int .i64 s.now, .int .i64 s.day, .int .i64 s.ph, .slice b1 m1 d1, .slice b2 m2 d2, .slice b3 m3 d3, .int .i64 s.nx, .slice b4 m4 d4, .slice b5 m5 d5, .int .i64 s.la, .slice b6 m6 d6, .slice b7 m7 d7, .slice b8 m8 d8, .slice b9 m9 d9, .slice b10 m10 d10] 41 (0, 0))) := setRow_heap _ _ _ _ _ _ (heap_alloc_new _ _)
          have HBS := Lib.hid hbs
          clear hbn hbs
          have HGS : Hid (((we.alloc (.cells #[.int .i64 0, .int .i64 0, .int .i64 0, .slice none 0 0, .slice none 0 0, .slice none 0 0, .int .i64 0, .slice none 0 0, .slice none 0 0, .int .i64 0, .slice none 0 0, .slice none 0 0, .slice none 0 0, .slice none 0 0, .slice none 0 0] 41)).setRow we.heap.size #[.int .i64 s.now, .int .i64 s.day, .int .i64 s.ph, .slice b1 m1 d1, .slice b2 m2 d2, .slice b3 m3 d3, .int .i64 s.nx, .slice b4 m4 d4, .slice b5 m5 d5, .int .i64 s.la, .slice b6 m6 d6, .slice b7 m7 d7, .slice b8 m8 d8, .slice b9 m9 d9, .slice b10 m10 d10]).heap[w.heap.size + 2]? = some (.cells #[.int .i64 s.now, .int .i64 s.day, .int .i64 s.ph, .slice a1 n1 c1, .slice a2 n2 c2, .slice a3 n3 c3, .int .i64 s.nx, .slice a4 n4 c4, .slice a5 n5 c5, .int .i64 s.la, .slice a6 n6 c6, .slice a7 n7 c7, .slice a8 n8 c8, .slice a9 n9 c9, .slice a10 n10 c10] 41 (0, 0))) := HSA.out.below HBS.out
          have HBC := Lib.hid (bgo HBA.out HBS.out HBA.out.size)
          have ks := KState_same ((we.alloc (.cells #[.int .i64 0, .int .i64 0, .int .i64 0, .slice none 0 0, .slice none 0 0, .slice none 0 0, .int .i64 0, .slice none 0 0, .slice none 0 0, .int .i64 0, .slice none 0 0, .slice none 0 0, .slice none 0 0, .slice none 0 0, .slice none 0 0] 41)).setRow we.heap.size #[.int .i64 s.now, .int .i64 s.day, .int .i64 s.ph, .slice b1 m1 d1, .slice b2 m2 d2, .slice b3 m3 d3, .int .i64 s.nx, .slice b4 m4 d4, .slice b5 m5 d5, .int .i64 s.la, .slice b6 m6 d6, .slice b7 m7 d7, .slice b8 m8 d8, .slice b9 m9 d9, .slice b10 m10 d10]) b1 m1 d1 b2 m2 d2 b3 m3 d3 b4 m4 d4 b5 m5 d5 b6 m6 d6 b7 m7 d7 b8 m8 d8 b9 m9 d9 b10 m10 d10 LB a1 n1 c1 a2 n2 c2 a3 n3 c3 a4 n4 c4 a5 n5 c5 a6 n6 c6 a7 n7 c7 a8 n8 c8 a9 n9 c9 a10 n10 c10 L s (HSC.out.mono HBS.out) (HST.out _ HBC.out)
          go_wp2_with (first
            | (refine wpList_store_row rfl 41 (.tmp 12) (.tmp 64) rfl we.heap.size #[.int .i64 s.now, .int .i64 s.day, .int .i64 s.ph, .slice b1 m1 d1, .slice b2 m2 d2, .slice b3 m3 d3, .int .i64 s.nx, .slice b4 m4 d4, .slice b5 m5 d5, .int .i64 s.la, .slice b6 m6 d6, .slice b7 m7 d7, .slice b8 m8 d8, .slice b9 m9 d9, .slice b10 m10 d10] rfl rfl 41 #[.int .i64 0, .int .i64 0, .int .i64 0, .slice none 0 0, .slice none 0 0, .slice none 0 0, .int .i64 0, .slice none 0 0, .slice none 0 0, .int .i64 0, .slice none 0 0, .slice none 0 0, .slice none 0 0, .slice none 0 0, .slice none 0 0] (heap_alloc_new _ _) HSZ3.out HSE3.out HON3.out ?_)
            | (refine wpList_load_row_w (by first | rfl | simp [Region.wanted, yielded]) 41 (.tmp 12) rfl we.heap.size rfl 41 #[.int .i64 s.now, .int .i64 s.day, .int .i64 s.ph, .slice b1 m1 d1, .slice b2 m2 d2, .slice b3 m3 d3, .int .i64 s.nx, .slice b4 m4 d4, .slice b5 m5 d5, .int .i64 s.la, .slice b6 m6 d6, .slice b7 m7 d7, .slice b8 m8 d8, .slice b9 m9 d9, .slice b10 m10 d10] (0, 0) _ HGX.out Tryz.underlying41 rfl HSZ3.out ?_)
            | (refine wpList_load_row_w (by first | rfl | simp [Region.wanted, yielded]) 41 (.tmp 5) rfl (w.heap.size + 2) rfl 41 #[.int .i64 s.now, .int .i64 s.day, .int .i64 s.ph, .slice a1 n1 c1, .slice a2 n2 c2, .slice a3 n3 c3, .int .i64 s.nx, .slice a4 n4 c4, .slice a5 n5 c5, .int .i64 s.la, .slice a6 n6 c6, .slice a7 n7 c7, .slice a8 n8 c8, .slice a9 n9 c9, .slice a10 n10 c10] (0, 0) _ HGS.out Tryz.underlying41 rfl HSZS.out ?_)
            | fail)
          refine ks.mono ?_
          clear ks HGX HGS HSE3 HON3
          generalize hW : ((we.alloc (.cells #[.int .i64 0, .int .i64 0, .int .i64 0, .slice none 0 0, .slice none 0 0, .slice none 0 0, .int .i64 0, .slice none 0 0, .slice none 0 0, .int .i64 0, .slice none 0 0, .slice none 0 0, .slice none 0 0, .slice none 0 0, .slice none 0 0] 41)).setRow we.heap.size #[.int .i64 s.now, .int .i64 s.day, .int .i64 s.ph, .slice b1 m1 d1, .slice b2 m2 d2, .slice b3 m3 d3, .int .i64 s.nx, .slice b4 m4 d4, .slice b5 m5 d5, .int .i64 s.la, .slice b6 m6 d6, .slice b7 m7 d7, .slice b8 m8 d8, .slice b9 m9 d9, .slice b10 m10 d10]) = wf at *
          clear hW HBS
          rintro e wg ⟨rfl, hb⟩
          have HBE := Lib.hid (bgo HBC.out hb HBC.out.size)
          have wk := wakes_any wg
          clear hb
          go_wp2_with fail
          refine wk.mono ?_
          clear wk
          rintro e wz ⟨rfl, hb⟩
          go_wp2_with fail
          go_ret
          exact ⟨rfl, bgo HBE.out hb HBE.out.size⟩
        · have wk := wakes_any wd
          clear ho
          go_wp2_with fail
          refine wk.mono ?_
          clear wk
          rintro e wz ⟨rfl, hb⟩
          go_wp2_with fail
          go_ret
          exact ⟨rfl, bgo HB9.out hb HB9.out.size⟩
end Cam
