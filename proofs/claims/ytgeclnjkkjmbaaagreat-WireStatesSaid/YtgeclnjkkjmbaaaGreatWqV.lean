import Derived.Test.YtgeclnjkkjmbaaaGreatWqE
import Derived.Test.YtgeclnjkkjmbaaaGreatWqW
import Derived.Test.YtgeclnjkkjmbaaaGreatKu
import Derived.Test.YtgeclnjkkjmbaaaGreatWrNaz
import Derived.Test.YtgeclnjkkjmbaaaGreatKeep
/- WireStates: the walk. -/
namespace Cam
open Go Go.RowKit Go.Proofs
set_option linter.unusedVariables false
set_option linter.unusedSimpArgs false
set_option maxHeartbeats 6400000
theorem OwnB.ge {t : TypeId} {w : World} {base : Nat} {v : Value} {l : List UInt8} (h : OwnB t w base v l) : ∀ k, v.ownBlock = some k → base ≤ k := fun k hk => (World.ownsRow.lt h k hk).1
theorem SpoilBytes_own (w : World) (base : Nat) (v : Value) (l : List UInt8) (h : OwnB 5 w base v l) :
  Calls Tryz.prog 12 #[v] w fun e w' => e = .returned (.tuple #[]) ∧ Kept (fun k => v.ownBlock = some k) w w' := by
 obtain ⟨a, cap, rfl⟩ := h.shape
 go_in
 go_wp2
 have hl63 : l.length ≤ 9223372036854775807 := by
  obtain ⟨_, _, _, h1, h2⟩ := h.bs.shape
  omega
 go_loopw [2] (fun i wr => ∃ (k : Nat) (xs : List Value), k ≤ l.length ∧ i = .int .i64 k ∧ wr.ownsRow base 5 1 (.slice a l.length cap) l.length xs ∧ (∀ u ∈ xs, ∃ n : Int, u = .int .u8 n) ∧ Kept (fun k => (Value.slice a l.length cap).ownBlock = some k) w wr) (fun i _ => l.length - (intOf i).toNat)
 case atStart => exact ⟨0, bvs l, Nat.zero_le _, rfl, h, fun u hu => by obtain ⟨c, _, rfl⟩ := List.mem_map.1 hu; exact ⟨_, rfl⟩, Kept.refl _ _⟩
 case round =>
  obtain ⟨k, xs, hk, rfl, hown, hall, hbel⟩ := hrel
  by_cases hlt : k < l.length
  ·
   obtain ⟨g, cap', hv⟩ := Joins.ownsRow_form hown (by omega)
   simp only [Value.slice.injEq, true_and] at hv
   obtain ⟨rfl, rfl⟩ := hv
   have hxl := hown.1
   have hkx : k < xs.length := by omega
   obtain ⟨n, hn⟩ := hall xs[k] (List.getElem_mem hkx)
   have hck := hown.cellAt k (by omega)
   rw [List.getElem?_eq_getElem hkx, hn] at hck
   have hfr := hown.frozenAt k
   obtain ⟨hst, hgr⟩ := hown.stored k (.int .u8 ((n + 101) % 256))
   have Hbel := Lh hbel
   have Hall := Lh hall
   clear hall hxl hn hbel
   go_wp2
   go_roundw
   case rel =>
    refine ⟨k + 1, xs.set k (.int .u8 ((n + 101) % 256)), by omega, by go_num, hst, fun u hu => ?_, Hbel.out.setCell _ _ rfl⟩
    rcases List.mem_or_eq_of_mem_set hu with h1 | rfl
    ·
     exact Hall.out u h1
    ·
     exact ⟨_, rfl⟩
   case measure => simp [intOf]; omega
  ·
   go_wp2
   go_end0
   exact ⟨rfl, hbel⟩
theorem readSt_two (l : List UInt8) : (readSt l).2 = 0 ∨ (readSt l).2 = 6 := by
 unfold readSt
 split
 ·
  exact .inr rfl
 ·
  split
  ·
   exact .inl rfl
  ·
   exact .inr rfl
set_option maxRecDepth 100000 in
theorem WireStates_walk (w : World) (a1 : Option Addr) (n1 c1 : Nat) (a2 : Option Addr) (n2 c2 : Nat) (a3 : Option Addr) (n3 c3 : Nat) (a4 : Option Addr) (n4 c4 : Nat) (a5 : Option Addr) (n5 c5 : Nat) (a6 : Option Addr) (n6 c6 : Nat) (a7 : Option Addr) (n7 c7 : Nat) (a8 : Option Addr) (n8 c8 : Nat) (a9 : Option Addr) (n9 c9 : Nat) (a10 : Option Addr) (n10 c10 : Nat) (L : List SV) (s : StT) (hst : StC w a1 n1 c1 a2 n2 c2 a3 n3 c3 a4 n4 c4 a5 n5 c5 a6 n6 c6 a7 n7 c7 a8 n8 c8 a9 n9 c9 a10 n10 c10 L s) (hok : s.ok) (vb : Value) (l : List UInt8) (hb0 : Bs w vb l) :
  Calls Tryz.prog 3 #[.agg #[s.now, s.day, s.ph, .slice a1 n1 c1, .slice a2 n2 c2, .slice a3 n3 c3, s.nx, .slice a4 n4 c4, .slice a5 n5 c5, s.la, .slice a6 n6 c6, .slice a7 n7 c7, .slice a8 n8 c8, .slice a9 n9 c9, .slice a10 n10 c10], vb] w fun e w' => e = .returned (.bool true) ∧ Below w.heap.size w w' := by
 obtain ⟨av, cv, rfl, hcv, hmv⟩ := hb0.shape
 obtain ⟨n, hn⟩ : ∃ n, n = l.length := ⟨_, rfl⟩
 rw [← hn] at hb0 hcv ⊢
 have hb1 : Below w.heap.size w (w.alloc (.cells #[s.now, s.day, s.ph, .slice a1 n1 c1, .slice a2 n2 c2, .slice a3 n3 c3, s.nx, .slice a4 n4 c4, .slice a5 n5 c5, s.la, .slice a6 n6 c6, .slice a7 n7 c7, .slice a8 n8 c8, .slice a9 n9 c9, .slice a10 n10 c10] 41)) := Bn
 have hc : HT (w.alloc (.cells #[s.now, s.day, s.ph, .slice a1 n1 c1, .slice a2 n2 c2, .slice a3 n3 c3, s.nx, .slice a4 n4 c4, .slice a5 n5 c5, s.la, .slice a6 n6 c6, .slice a7 n7 c7, .slice a8 n8 c8, .slice a9 n9 c9, .slice a10 n10 c10] 41)) w.heap.size 41 [s.now, s.day, s.ph, .slice a1 n1 c1, .slice a2 n2 c2, .slice a3 n3 c3, s.nx, .slice a4 n4 c4, .slice a5 n5 c5, s.la, .slice a6 n6 c6, .slice a7 n7 c7, .slice a8 n8 c8, .slice a9 n9 c9, .slice a10 n10 c10] := HT.new (w := w)
 have hstm : ∀ x, Below w.heap.size w x → StC x a1 n1 c1 a2 n2 c2 a3 n3 c3 a4 n4 c4 a5 n5 c5 a6 n6 c6 a7 n7 c7 a8 n8 c8 a9 n9 c9 a10 n10 c10 L s := fun x hb => hst.monoQ hb
 have lg := Heavy_any (w.alloc (.cells #[s.now, s.day, s.ph, .slice a1 n1 c1, .slice a2 n2 c2, .slice a3 n3 c3, s.nx, .slice a4 n4 c4, .slice a5 n5 c5, s.la, .slice a6 n6 c6, .slice a7 n7 c7, .slice a8 n8 c8, .slice a9 n9 c9, .slice a10 n10 c10] 41)) a1 n1 c1 a2 n2 c2 a3 n3 c3 a4 n4 c4 a5 n5 c5 a6 n6 c6 a7 n7 c7 a8 n8 c8 a9 n9 c9 a10 n10 c10 L s (hstm _ hb1)
 have HSZ : Hid ((Tryz.prog.info? 41).map (·.size) = some (#[s.now, s.day, s.ph, .slice a1 n1 c1, .slice a2 n2 c2, .slice a3 n3 c3, s.nx, .slice a4 n4 c4, .slice a5 n5 c5, s.la, .slice a6 n6 c6, .slice a7 n7 c7, .slice a8 n8 c8, .slice a9 n9 c9, .slice a10 n10 c10] : Array Value).size) := by show _ = _; rw [stSz]; rfl
 have HG : Hid ((w.alloc (.cells #[s.now, s.day, s.ph, .slice a1 n1 c1, .slice a2 n2 c2, .slice a3 n3 c3, s.nx, .slice a4 n4 c4, .slice a5 n5 c5, s.la, .slice a6 n6 c6, .slice a7 n7 c7, .slice a8 n8 c8, .slice a9 n9 c9, .slice a10 n10 c10] 41)).heap[w.heap.size]? = some (.cells #[s.now, s.day, s.ph, .slice a1 n1 c1, .slice a2 n2 c2, .slice a3 n3 c3, s.nx, .slice a4 n4 c4, .slice a5 n5 c5, s.la, .slice a6 n6 c6, .slice a7 n7 c7, .slice a8 n8 c8, .slice a9 n9 c9, .slice a10 n10 c10] 41 (0, 0))) := hc
 have HB1 := Lh hb1
 have HC := Lh hc
 have HST := Lh hstm
 have HOK := Lh hok
 have HV := Lh hb0
 have HN := Lh hn
 clear hb1 hc hst hstm hok hb0 hn
 obtain ⟨b, hb⟩ : ∃ b, b = stHeavy s := ⟨_, rfl⟩
 rw [← hb] at lg
 have HBW := Lh hb
 clear hb
 by_cases hlong : 131072 < n
 ·
  go_in
  go_wp2_with (first
   | (refine wpList_load_row rfl 41 (.tmp 2) rfl w.heap.size rfl 41 #[s.now, s.day, s.ph, .slice a1 n1 c1, .slice a2 n2 c2, .slice a3 n3 c3, s.nx, .slice a4 n4 c4, .slice a5 n5 c5, s.la, .slice a6 n6 c6, .slice a7 n7 c7, .slice a8 n8 c8, .slice a9 n9 c9, .slice a10 n10 c10] (0, 0) _ HG.out Tryz.underlying41 rfl HSZ.out ?_)
   | fail)
  refine lg.mono ?_
  clear lg
  rintro e w1 ⟨rfl, hb⟩
  have HB := Lh (bgo HB1.out hb HB1.out.size)
  clear hb
  cases b with
  | true =>
   go_wp2_with fail
   go_ret
   exact ⟨rfl, HB.out⟩
  | false =>
   go_wp2_with fail
   go_ret
   exact ⟨rfl, HB.out⟩
 ·
  cases b with
  | true =>
   go_in
   go_wp2_with (first
    | (refine wpList_load_row rfl 41 (.tmp 2) rfl w.heap.size rfl 41 #[s.now, s.day, s.ph, .slice a1 n1 c1, .slice a2 n2 c2, .slice a3 n3 c3, s.nx, .slice a4 n4 c4, .slice a5 n5 c5, s.la, .slice a6 n6 c6, .slice a7 n7 c7, .slice a8 n8 c8, .slice a9 n9 c9, .slice a10 n10 c10] (0, 0) _ HG.out Tryz.underlying41 rfl HSZ.out ?_)
    | fail)
   refine lg.mono ?_
   clear lg
   rintro e w1 ⟨rfl, hb⟩
   have HB := Lh (bgo HB1.out hb HB1.out.size)
   clear hb
   go_wp2_with fail
   go_ret
   exact ⟨rfl, HB.out⟩
  | false =>
   have hno := stHeavy_no HBW.out.symm
   have hsz : (encG SeT.bytes s.S).length ≤ 50000000 := by
    have h1 := encG_length SeT.bytes 200100 s.S (fun x hx => SeT.blen x (HOK.out.S x hx))
    have h2 : s.S.length ≤ 100 := hno.2.2.2.2.2.2.2.2.2.1
    have h3 : s.S.length * 200100 ≤ 100 * 200100 := Nat.mul_le_mul_right _ h2
    omega
   have HSL : Hid (s.S.length ≤ 100) := hno.2.2.2.2.2.2.2.2.2.1
   have HSE0 := Lh hsz
   clear hno hsz
   go_in
   go_wp2_with (first
    | (refine wpList_load_row rfl 41 (.tmp 2) rfl w.heap.size rfl 41 #[s.now, s.day, s.ph, .slice a1 n1 c1, .slice a2 n2 c2, .slice a3 n3 c3, s.nx, .slice a4 n4 c4, .slice a5 n5 c5, s.la, .slice a6 n6 c6, .slice a7 n7 c7, .slice a8 n8 c8, .slice a9 n9 c9, .slice a10 n10 c10] (0, 0) _ HG.out Tryz.underlying41 rfl HSZ.out ?_)
    | fail)
   refine lg.mono ?_
   clear lg
   rintro e w1 ⟨rfl, hb⟩
   have HBx := Lh (bgo HB1.out hb HB1.out.size)
   have HG1 : Hid (w1.heap[w.heap.size]? = some (.cells #[s.now, s.day, s.ph, .slice a1 n1 c1, .slice a2 n2 c2, .slice a3 n3 c3, s.nx, .slice a4 n4 c4, .slice a5 n5 c5, s.la, .slice a6 n6 c6, .slice a7 n7 c7, .slice a8 n8 c8, .slice a9 n9 c9, .slice a10 n10 c10] 41 (0, 0))) := HC.out.below hb
   have rp := State_any w1 a1 n1 c1 a2 n2 c2 a3 n3 c3 a4 n4 c4 a5 n5 c5 a6 n6 c6 a7 n7 c7 a8 n8 c8 a9 n9 c9 a10 n10 c10 L s (HST.out _ HBx.out) HOK.out HSE0.out
   unfold BytesPost at rp
   obtain ⟨e0, he0⟩ : ∃ e, e = bE s.bad s.bytes := ⟨_, rfl⟩
   obtain ⟨l0, hl0⟩ : ∃ e, e = bL s.bad s.bytes := ⟨_, rfl⟩
   rw [← he0, ← hl0] at rp
   have HE := Lh (⟨he0, hl0⟩ : _ ∧ _)
   clear hb he0 hl0
   go_wp2_with (first
    | (refine wpList_load_row rfl 41 (.tmp 2) rfl w.heap.size rfl 41 #[s.now, s.day, s.ph, .slice a1 n1 c1, .slice a2 n2 c2, .slice a3 n3 c3, s.nx, .slice a4 n4 c4, .slice a5 n5 c5, s.la, .slice a6 n6 c6, .slice a7 n7 c7, .slice a8 n8 c8, .slice a9 n9 c9, .slice a10 n10 c10] (0, 0) _ HG1.out Tryz.underlying41 rfl HSZ.out ?_)
    | fail)
   refine rp.mono ?_
   clear rp
   rintro e w2 ⟨x1, k1, c1x, rfl, ho1, hb⟩
   have HO1 := Lh ho1
   have HB2 := Lh (bgo HBx.out hb HBx.out.size)
   have HG2 : Hid (w2.heap[w.heap.size]? = some (.cells #[s.now, s.day, s.ph, .slice a1 n1 c1, .slice a2 n2 c2, .slice a3 n3 c3, s.nx, .slice a4 n4 c4, .slice a5 n5 c5, s.la, .slice a6 n6 c6, .slice a7 n7 c7, .slice a8 n8 c8, .slice a9 n9 c9, .slice a10 n10 c10] 41 (0, 0))) := (show HT w1 w.heap.size 41 [s.now, s.day, s.ph, .slice a1 n1 c1, .slice a2 n2 c2, .slice a3 n3 c3, s.nx, .slice a4 n4 c4, .slice a5 n5 c5, s.la, .slice a6 n6 c6, .slice a7 n7 c7, .slice a8 n8 c8, .slice a9 n9 c9, .slice a10 n10 c10] from HG1.out).below hb
   have rq := rState_any w2 a1 n1 c1 a2 n2 c2 a3 n3 c3 a4 n4 c4 a5 n5 c5 a6 n6 c6 a7 n7 c7 a8 n8 c8 a9 n9 c9 a10 n10 c10 L s (HST.out _ HB2.out) HOK.out HSL.out
   unfold BytesPost at rq
   rw [← HE.out.1, ← HE.out.2] at rq
   clear ho1 hb
   go_wp2_with (first
    | (refine wpList_load_row rfl 41 (.tmp 2) rfl w.heap.size rfl 41 #[s.now, s.day, s.ph, .slice a1 n1 c1, .slice a2 n2 c2, .slice a3 n3 c3, s.nx, .slice a4 n4 c4, .slice a5 n5 c5, s.la, .slice a6 n6 c6, .slice a7 n7 c7, .slice a8 n8 c8, .slice a9 n9 c9, .slice a10 n10 c10] (0, 0) _ HG2.out Tryz.underlying41 rfl HSZ.out ?_)
    | fail)
   refine rq.mono ?_
   clear rq
   rintro e w3 ⟨x2, k2, c2x, rfl, ho2, hb⟩
   have HB3 := Lh (bgo HB2.out hb HB2.out.size)
   have by1 := Bytes_any w3 _ _ l0 l0 (HO1.out.bs.mono hb) ho2.bs
   rw [decide_eq_true rfl] at by1
   clear ho2 hb
   go_wp2_with fail
   refine by1.mono ?_
   clear by1
   rintro e w4 ⟨rfl, hb⟩
   have HB4 := Lh (bgo HB3.out hb HB3.out.size)
   have tw := Twin_any w4 _ l (HV.out.mono HB4.out) (by rw [← HN.out]; omega)
   unfold RetB at tw
   clear hb
   go_wp2_with fail
   refine tw.mono ?_
   clear tw
   rintro e w5 ⟨vin, rfl, ho5, hb⟩
   have HB5 := Lh (bgo HB4.out hb HB4.out.size)
   have HO5 := Lh ho5
   have HW4 : Hid (w.heap.size ≤ w4.heap.size) := HB4.out.size
   have rd := ReadState_any w5 vin l ho5.bs (by rw [← HN.out]; omega)
   unfold readStPost at rd
   obtain ⟨X, hX⟩ : ∃ X, X = (readSt l).1 := ⟨_, rfl⟩
   obtain ⟨E, hE⟩ : ∃ E, E = (readSt l).2 := ⟨_, rfl⟩
   rw [← hX, ← hE] at rd
   have HX := Lh (⟨hX, hE⟩ : _ ∧ _)
   obtain ⟨ai, ci, rfl, _, _⟩ := ho5.bs.shape
   clear ho5 hb hX hE
   go_wp2_with fail
   refine rd.mono ?_
   clear rd
   rintro e w6 ⟨val, rfl, hv, hb⟩
   have HB6 := Lh (bgo HB5.out hb HB5.out.size)
   have HV6 := Lh hv
   have HO6 := Lh (OwnB.below HO5.out hb)
   have HV6S : Hid (w5.heap.size ≤ w6.heap.size) := hb.size
   have HLT6 : Hid (∀ k, (Value.slice ai l.length ci).ownBlock = some k → w.heap.size ≤ k ∧ k < w5.heap.size) := fun k hk => ⟨Nat.le_trans HW4.out (OwnB.ge HO5.out k hk), OwnB.lt HO5.out k hk⟩
   obtain ⟨p1, m1, d1, p2, m2, d2, p3, m3, d3, p4, m4, d4, p5, m5, d5, p6, m6, d6, p7, m7, d7, p8, m8, d8, p9, m9, d9, p10, m10, d10, LT, rfl, _⟩ := StOwn.c hv
   have hbn : Below w6.heap.size w6 (w6.alloc (.cells #[(0:Int), (0:Int), (0:Int), (), (), (), (0:Int), (), (), (0:Int), (), (), (), (), ()] 41)) := Bn
   have hbs : Below w6.heap.size w6 ((w6.alloc (.cells #[(0:Int), (0:Int), (0:Int), (), (), (), (0:Int), (), (), (0:Int), (), (), (), (), ()] 41)).setRow w6.heap.size #[X.now, X.day, X.ph, .slice p1 m1 d1, .slice p2 m2 d2, .slice p3 m3 d3, X.nx, .slice p4 m4 d4, .slice p5 m5 d5, X.la, .slice p6 m6 d6, .slice p7 m7 d7, .slice p8 m8 d8, .slice p9 m9 d9, .slice p10 m10 d10]) := hbn.trans (setRow_below (Nat.le_refl _) _)
   have hb7 : Below w.heap.size w ((w6.alloc (.cells #[(0:Int), (0:Int), (0:Int), (), (), (), (0:Int), (), (), (0:Int), (), (), (), (), ()] 41)).setRow w6.heap.size #[X.now, X.day, X.ph, .slice p1 m1 d1, .slice p2 m2 d2, .slice p3 m3 d3, X.nx, .slice p4 m4 d4, .slice p5 m5 d5, X.la, .slice p6 m6 d6, .slice p7 m7 d7, .slice p8 m8 d8, .slice p9 m9 d9, .slice p10 m10 d10]) := HB6.out.trans (hbs.mono HB6.out.size)
   have sp := SpoilBytes_own _ _ _ l ((OwnB.below HO6.out hbs))
   have HSE : Hid ((#[(0:Int), (0:Int), (0:Int), (), (), (), (0:Int), (), (), (0:Int), (), (), (), (), ()] : Array Value).size = (#[X.now, X.day, X.ph, .slice p1 m1 d1, .slice p2 m2 d2, .slice p3 m3 d3, X.nx, .slice p4 m4 d4, .slice p5 m5 d5, X.la, .slice p6 m6 d6, .slice p7 m7 d7, .slice p8 m8 d8, .slice p9 m9 d9, .slice p10 m10 d10] : Array Value).size) := by show _ = _; rfl
   have HSZ2 : Hid ((Tryz.prog.info? 41).map (·.size) = some (#[X.now, X.day, X.ph, .slice p1 m1 d1, .slice p2 m2 d2, .slice p3 m3 d3, X.nx, .slice p4 m4 d4, .slice p5 m5 d5, X.la, .slice p6 m6 d6, .slice p7 m7 d7, .slice p8 m8 d8, .slice p9 m9 d9, .slice p10 m10 d10] : Array Value).size) := by show _ = _; rw [stSz]; rfl
   have HONE : Hid ((#[X.now, X.day, X.ph, .slice p1 m1 d1, .slice p2 m2 d2, .slice p3 m3 d3, X.nx, .slice p4 m4 d4, .slice p5 m5 d5, X.la, .slice p6 m6 d6, .slice p7 m7 d7, .slice p8 m8 d8, .slice p9 m9 d9, .slice p10 m10 d10] : Array Value).all (·.oneCell') = true) := by show _ = true; simp [Value.oneCell']
   have HN7 : Hid (HT ((w6.alloc (.cells #[(0:Int), (0:Int), (0:Int), (), (), (), (0:Int), (), (), (0:Int), (), (), (), (), ()] 41)).setRow w6.heap.size #[X.now, X.day, X.ph, .slice p1 m1 d1, .slice p2 m2 d2, .slice p3 m3 d3, X.nx, .slice p4 m4 d4, .slice p5 m5 d5, X.la, .slice p6 m6 d6, .slice p7 m7 d7, .slice p8 m8 d8, .slice p9 m9 d9, .slice p10 m10 d10]) w6.heap.size 41 [X.now, X.day, X.ph, .slice p1 m1 d1, .slice p2 m2 d2, .slice p3 m3 d3, X.nx, .slice p4 m4 d4, .slice p5 m5 d5, X.la, .slice p6 m6 d6, .slice p7 m7 d7, .slice p8 m8 d8, .slice p9 m9 d9, .slice p10 m10 d10]) := setRow_heap _ _ _ _ _ _ (heap_alloc_new w6 _)
   have HV7 := Lh (HV6.out.below hbs)
   have HB7 := Lh hb7
   clear hv hb hbn hbs hb7
   go_wp2_with (first
    | (refine wpList_store_row rfl 41 (.tmp 10) (.tmp 44) rfl w6.heap.size #[X.now, X.day, X.ph, .slice p1 m1 d1, .slice p2 m2 d2, .slice p3 m3 d3, X.nx, .slice p4 m4 d4, .slice p5 m5 d5, X.la, .slice p6 m6 d6, .slice p7 m7 d7, .slice p8 m8 d8, .slice p9 m9 d9, .slice p10 m10 d10] rfl rfl 41 #[(0:Int), (0:Int), (0:Int), (), (), (), (0:Int), (), (), (0:Int), (), (), (), (), ()] (heap_alloc_new w6 _) HSZ2.out HSE.out HONE.out ?_)
    | fail)
   refine sp.mono ?_
   clear sp
   generalize hW7 : ((w6.alloc (.cells #[(0:Int), (0:Int), (0:Int), (), (), (), (0:Int), (), (), (0:Int), (), (), (), (), ()] 41)).setRow w6.heap.size #[X.now, X.day, X.ph, .slice p1 m1 d1, .slice p2 m2 d2, .slice p3 m3 d3, X.nx, .slice p4 m4 d4, .slice p5 m5 d5, X.la, .slice p6 m6 d6, .slice p7 m7 d7, .slice p8 m8 d8, .slice p9 m9 d9, .slice p10 m10 d10]) = w7 at *
   clear hW7
   rintro e w8 ⟨rfl, hk8⟩
   have HB8 : Hid (Below w.heap.size w w8) := HB7.out.trans (hk8.below (fun k hk e => by have := HLT6.out k e; omega) HB7.out.size)
   have HV8 := Lh (HV7.out.kept hk8 (fun k hk e => by have := HLT6.out k e; omega))
   have HN8 : Hid (HT w8 w6.heap.size 41 [X.now, X.day, X.ph, .slice p1 m1 d1, .slice p2 m2 d2, .slice p3 m3 d3, X.nx, .slice p4 m4 d4, .slice p5 m5 d5, X.la, .slice p6 m6 d6, .slice p7 m7 d7, .slice p8 m8 d8, .slice p9 m9 d9, .slice p10 m10 d10]) := HN7.out.keptH hk8 (fun e => by have := HLT6.out _ e; have := HV6S.out; omega)
   have rr := rstate_any w8 _ l (HV.out.mono HB8.out) (by rw [← HN.out]; omega)
   unfold RqSt at rr
   rw [← HX.out.1, ← HX.out.2] at rr
   clear hk8
   go_wp2_with fail
   refine rr.mono ?_
   clear rr
   rintro e w9 ⟨val2, rfl, hv9, hb⟩
   have HB9 := Lh (bgo HB8.out hb HB8.out.size)
   have HV8b := Lh (HV8.out.below hb)
   have HN9 : Hid (HT w9 w6.heap.size 41 [X.now, X.day, X.ph, .slice p1 m1 d1, .slice p2 m2 d2, .slice p3 m3 d3, X.nx, .slice p4 m4 d4, .slice p5 m5 d5, X.la, .slice p6 m6 d6, .slice p7 m7 d7, .slice p8 m8 d8, .slice p9 m9 d9, .slice p10 m10 d10]) := HN8.out.below hb
   obtain ⟨q1, r1, e1, q2, r2, e2, q3, r3, e3, q4, r4, e4, q5, r5, e5, q6, r6, e6, q7, r7, e7, q8, r8, e8, q9, r9, e9, q10, r10, e10, LU, rfl, scu⟩ := StOwn.c hv9
   have hbn : Below w9.heap.size w9 (w9.alloc (.cells #[(0:Int), (0:Int), (0:Int), (), (), (), (0:Int), (), (), (0:Int), (), (), (), (), ()] 41)) := Bn
   have hbs : Below w9.heap.size w9 ((w9.alloc (.cells #[(0:Int), (0:Int), (0:Int), (), (), (), (0:Int), (), (), (0:Int), (), (), (), (), ()] 41)).setRow w9.heap.size #[X.now, X.day, X.ph, .slice q1 r1 e1, .slice q2 r2 e2, .slice q3 r3 e3, X.nx, .slice q4 r4 e4, .slice q5 r5 e5, X.la, .slice q6 r6 e6, .slice q7 r7 e7, .slice q8 r8 e8, .slice q9 r9 e9, .slice q10 r10 e10]) := hbn.trans (setRow_below (Nat.le_refl _) _)
   have HBA := Lh (HB9.out.trans (hbs.mono HB9.out.size))
   have HSE3 : Hid ((#[(0:Int), (0:Int), (0:Int), (), (), (), (0:Int), (), (), (0:Int), (), (), (), (), ()] : Array Value).size = (#[X.now, X.day, X.ph, .slice q1 r1 e1, .slice q2 r2 e2, .slice q3 r3 e3, X.nx, .slice q4 r4 e4, .slice q5 r5 e5, X.la, .slice q6 r6 e6, .slice q7 r7 e7, .slice q8 r8 e8, .slice q9 r9 e9, .slice q10 r10 e10] : Array Value).size) := by show _ = _; rfl
   have HSZ3 : Hid ((Tryz.prog.info? 41).map (·.size) = some (#[X.now, X.day, X.ph, .slice q1 r1 e1, .slice q2 r2 e2, .slice q3 r3 e3, X.nx, .slice q4 r4 e4, .slice q5 r5 e5, X.la, .slice q6 r6 e6, .slice q7 r7 e7, .slice q8 r8 e8, .slice q9 r9 e9, .slice q10 r10 e10] : Array Value).size) := by show _ = _; rw [stSz]; rfl
   have HONE3 : Hid ((#[X.now, X.day, X.ph, .slice q1 r1 e1, .slice q2 r2 e2, .slice q3 r3 e3, X.nx, .slice q4 r4 e4, .slice q5 r5 e5, X.la, .slice q6 r6 e6, .slice q7 r7 e7, .slice q8 r8 e8, .slice q9 r9 e9, .slice q10 r10 e10] : Array Value).all (·.oneCell') = true) := by show _ = true; simp [Value.oneCell']
   have HNA : Hid (((w9.alloc (.cells #[(0:Int), (0:Int), (0:Int), (), (), (), (0:Int), (), (), (0:Int), (), (), (), (), ()] 41)).setRow w9.heap.size #[X.now, X.day, X.ph, .slice q1 r1 e1, .slice q2 r2 e2, .slice q3 r3 e3, X.nx, .slice q4 r4 e4, .slice q5 r5 e5, X.la, .slice q6 r6 e6, .slice q7 r7 e7, .slice q8 r8 e8, .slice q9 r9 e9, .slice q10 r10 e10]).heap[w9.heap.size]? = some (.cells #[X.now, X.day, X.ph, .slice q1 r1 e1, .slice q2 r2 e2, .slice q3 r3 e3, X.nx, .slice q4 r4 e4, .slice q5 r5 e5, X.la, .slice q6 r6 e6, .slice q7 r7 e7, .slice q8 r8 e8, .slice q9 r9 e9, .slice q10 r10 e10] 41 (0, 0))) := setRow_heap _ _ _ _ _ _ (heap_alloc_new w9 _)
   have HN9A : Hid (((w9.alloc (.cells #[(0:Int), (0:Int), (0:Int), (), (), (), (0:Int), (), (), (0:Int), (), (), (), (), ()] 41)).setRow w9.heap.size #[X.now, X.day, X.ph, .slice q1 r1 e1, .slice q2 r2 e2, .slice q3 r3 e3, X.nx, .slice q4 r4 e4, .slice q5 r5 e5, X.la, .slice q6 r6 e6, .slice q7 r7 e7, .slice q8 r8 e8, .slice q9 r9 e9, .slice q10 r10 e10]).heap[w6.heap.size]? = some (.cells #[X.now, X.day, X.ph, .slice p1 m1 d1, .slice p2 m2 d2, .slice p3 m3 d3, X.nx, .slice p4 m4 d4, .slice p5 m5 d5, X.la, .slice p6 m6 d6, .slice p7 m7 d7, .slice p8 m8 d8, .slice p9 m9 d9, .slice p10 m10 d10] 41 (0, 0))) := HN9.out.below hbs
   obtain ⟨t1, u1, v1, t2, u2, v2, t3, u3, v3, t4, u4, v4, t5, u5, v5, t6, u6, v6, t7, u7, v7, t8, u8, v8, t9, u9, v9, t10, u10, v10, LT2, e1, sct⟩ := StOwn.c HV8b.out
   injection e1 with e1
   simp only [Array.mk.injEq, List.cons.injEq, Value.slice.injEq, and_true, true_and] at e1
   obtain ⟨⟨rfl, rfl, rfl⟩, ⟨rfl, rfl, rfl⟩, ⟨rfl, rfl, rfl⟩, ⟨rfl, rfl, rfl⟩, ⟨rfl, rfl, rfl⟩, ⟨rfl, rfl, rfl⟩, ⟨rfl, rfl, rfl⟩, ⟨rfl, rfl, rfl⟩, ⟨rfl, rfl, rfl⟩, ⟨rfl, rfl, rfl⟩⟩ := e1
   have kr := KState_same ((w9.alloc (.cells #[(0:Int), (0:Int), (0:Int), (), (), (), (0:Int), (), (), (0:Int), (), (), (), (), ()] 41)).setRow w9.heap.size #[X.now, X.day, X.ph, .slice q1 r1 e1, .slice q2 r2 e2, .slice q3 r3 e3, X.nx, .slice q4 r4 e4, .slice q5 r5 e5, X.la, .slice q6 r6 e6, .slice q7 r7 e7, .slice q8 r8 e8, .slice q9 r9 e9, .slice q10 r10 e10]) p1 m1 d1 p2 m2 d2 p3 m3 d3 p4 m4 d4 p5 m5 d5 p6 m6 d6 p7 m7 d7 p8 m8 d8 p9 m9 d9 p10 m10 d10 LT2 q1 r1 e1 q2 r2 e2 q3 r3 e3 q4 r4 e4 q5 r5 e5 q6 r6 e6 q7 r7 e7 q8 r8 e8 q9 r9 e9 q10 r10 e10 LU X (sct.monoQ hbs) (scu.monoQ hbs)
   have h2 := readSt_two l
   rw [← HX.out.2] at h2
   clear hb hbn hbs hv9 sct scu
   rcases h2 with rfl | rfl
   all_goals
    go_wp2_with (first
     | (refine wpList_store_row rfl 41 (.tmp 11) (.tmp 51) rfl w9.heap.size #[X.now, X.day, X.ph, .slice q1 r1 e1, .slice q2 r2 e2, .slice q3 r3 e3, X.nx, .slice q4 r4 e4, .slice q5 r5 e5, X.la, .slice q6 r6 e6, .slice q7 r7 e7, .slice q8 r8 e8, .slice q9 r9 e9, .slice q10 r10 e10] rfl rfl 41 #[(0:Int), (0:Int), (0:Int), (), (), (), (0:Int), (), (), (0:Int), (), (), (), (), ()] (heap_alloc_new w9 _) HSZ3.out HSE3.out HONE3.out ?_)
     | (refine wpList_load_row rfl 41 (.tmp 10) rfl w6.heap.size rfl 41 #[X.now, X.day, X.ph, .slice p1 m1 d1, .slice p2 m2 d2, .slice p3 m3 d3, X.nx, .slice p4 m4 d4, .slice p5 m5 d5, X.la, .slice p6 m6 d6, .slice p7 m7 d7, .slice p8 m8 d8, .slice p9 m9 d9, .slice p10 m10 d10] (0, 0) _ HN9A.out Tryz.underlying41 rfl HSZ2.out ?_)
     | (refine wpList_load_row rfl 41 (.tmp 11) rfl w9.heap.size rfl 41 #[X.now, X.day, X.ph, .slice q1 r1 e1, .slice q2 r2 e2, .slice q3 r3 e3, X.nx, .slice q4 r4 e4, .slice q5 r5 e5, X.la, .slice q6 r6 e6, .slice q7 r7 e7, .slice q8 r8 e8, .slice q9 r9 e9, .slice q10 r10 e10] (0, 0) _ HNA.out Tryz.underlying41 rfl HSZ3.out ?_)
     | fail)
    refine kr.mono ?_
    rintro e wB ⟨rfl, hb⟩
    have HBB := Lh (bgo HBA.out hb HBA.out.size)
    have wk := wakes_any wB
    clear hb
    go_wp2_with fail
    refine wk.mono ?_
    rintro e wC ⟨rfl, hb⟩
    have HBC := Lh (bgo HBB.out hb HBB.out.size)
    clear hb
    go_wp2_with fail
    go_ret
    exact ⟨rfl, HBC.out⟩
end Cam
