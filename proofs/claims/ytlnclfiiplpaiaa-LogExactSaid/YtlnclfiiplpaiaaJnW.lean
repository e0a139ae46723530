import Derived.Test.YtlnclfiiplpaiaaJnJz
/- cambistlaw07.wakes; a new disk. -/
namespace Cam
open Go Go.RowKit Go.Proofs
theorem OnD.new (n : Nat) : OnD (DK.new n) := ⟨rfl, rfl, rfl, rfl⟩
theorem readL_zeros (k : Nat) : readL (List.replicate k zero64) = ⟨0, [], [], 0⟩ := readL_none (not_stands_zeros k)
theorem openT_is {n : Nat} {N : List (List UInt8)} {A B : HalfT} (hA : readL (halfOf N 0 (n / 2)) = A) (hB : readL (halfOf N (n / 2) (n / 2)) = B) : openT n N = if 0 < A.gen ∧ B.gen ≤ A.gen then ⟨0, A, false⟩ else ⟨n / 2, B, false⟩ := by
 unfold halfOf at hA hB
 rw [List.drop_zero] at hA
 unfold openT
 rw [hA, hB]
theorem openT_new (n : Nat) : openT n (DK.new n).now = ⟨n / 2, ⟨0, [], [], 0⟩, false⟩ := by
 have hz : ∀ a, readL (halfOf (DK.new n).now a (n / 2)) = ⟨0, [], [], 0⟩ := fun a => by
  have e : halfOf (DK.new n).now a (n / 2) = List.replicate (min (n / 2) (n - a)) zero64 := by
   unfold halfOf DK.new
   simp only
   rw [List.drop_replicate, List.take_replicate]
  rw [e]
  exact readL_zeros _
 rw [openT_is (hz 0) (hz (n / 2)), if_neg (by simp)]
def first1 (n : Nat) (s : List UInt8) : List (List UInt8) := puts (puts (DK.new n).now 0 (List.replicate (n / 2) zero64)) 0 (rowsOf 1 0 s)
theorem DK.new_now (n : Nat) : (DK.new n).now.length = n := by simp [DK.new]
theorem first1_length (n : Nat) (s : List UInt8) : (first1 n s).length = n := by unfold first1; rw [puts_length, puts_length, DK.new_now]
theorem first1_holds {n : Nat} {s : List UInt8} (hfit : (rowsOf 1 0 s).length ≤ n / 2) : Holds (first1 n s) 0 (n / 2) 1 s [] := begin_holds (by rw [DK.new_now]; omega) hfit
theorem first1_other {n : Nat} {s : List UInt8} (hfit : (rowsOf 1 0 s).length ≤ n / 2) : halfOf (first1 n s) (n / 2) (n / 2) = List.replicate (n / 2) zero64 := by
 unfold first1
 rw [puts_other (by rw [puts_length, DK.new_now]; omega) (by omega), puts_other (by rw [List.length_replicate, DK.new_now]; omega) (by rw [List.length_replicate]; omega)]
 unfold halfOf DK.new
 simp only
 rw [List.drop_replicate, List.take_replicate]
 congr 1
 omega
theorem Begin_on {B : Nat} (w0 w : World) (g gl n : Nat) (D : DK) (T : LT) (h : JM B w0 g gl n D T) (hw : Below w0.heap.size w0 w) (hB : B ≤ w0.heap.size) (v : Value) (s : List UInt8) (hsn : ∀ w', Kept (JS B w0) w w' → Bs w' v s) (hD : OnD D)
  (hfr : T.from_ = 0 ∨ T.from_ = n / 2) (hgen : T.half.gen < 1099511627776) (hs : s.length ≤ 65536) (hfit : (rowsOf (T.half.gen + 1) 0 s).length ≤ n / 2) (hop : D.op.length ≤ 500000) :
  Calls Try.prog 14 #[.pointer (some ⟨gl, 0, none⟩), v] w fun e w' => e = .returned (.int .i64 0) ∧
   JM B w' g gl n (dLaid D (puts (puts D.now (n / 2 - T.from_) (List.replicate (n / 2) zero64)) (n / 2 - T.from_) (rowsOf (T.half.gen + 1) 0 s))) ⟨n / 2 - T.from_, ⟨T.half.gen + 1, s, [], (rowsOf (T.half.gen + 1) 0 s).length⟩, true⟩ ∧ Below B w w' := by
 have h9 := Begin_j w0 w g gl n D T h hw hB v s hsn hfr hgen hs hfit hop
 rw [dPhases_on2 hD, if_pos rfl] at h9
 exact h9
theorem Append_on {B : Nat} (w0 w : World) (g gl n : Nat) (D : DK) (T : LT) (h : JM B w0 g gl n D T) (hw : Below w0.heap.size w0 w) (hB : B ≤ w0.heap.size) (v : Value) (rs : List (List UInt8)) (hrs : ∀ w', Kept (JS B w0) w w' → Bss w' v rs) (hD : OnD D)
  (hbg : T.begun = true) (hfr : T.from_ ≤ n / 2) (hfit : T.half.fin + (recRows T.half.gen (T.half.recs.length + 1) rs).length ≤ n / 2) (hgen : T.half.gen ≤ 1099511627776) (hnr : T.half.recs.length ≤ 1000000) (hle : ∀ r ∈ rs, r.length ≤ 65536) (hns : rs.length ≤ 1000) (hop : D.op.length ≤ 500000) :
  Calls Try.prog 15 #[.pointer (some ⟨gl, 0, none⟩), v] w fun e w' => e = .returned (.int .i64 0) ∧
   JM B w' g gl n (dPuts D (T.from_ + T.half.fin) (recRows T.half.gen (T.half.recs.length + 1) rs)) ⟨T.from_, ⟨T.half.gen, T.half.snap, T.half.recs ++ rs, T.half.fin + (recRows T.half.gen (T.half.recs.length + 1) rs).length⟩, T.begun⟩ ∧ Below B w w' := by
 have h9 := Append_j w0 w g gl n D T h hw hB v rs hrs hbg hD.off hfr (by omega) hgen hnr hle hns hop
 have e : appR n D T rs = (0, dPuts D (T.from_ + T.half.fin) (recRows T.half.gen (T.half.recs.length + 1) rs), ⟨T.from_, ⟨T.half.gen, T.half.snap, T.half.recs ++ rs, T.half.fin + (recRows T.half.gen (T.half.recs.length + 1) rs).length⟩, T.begun⟩) := by
  unfold appR
  rw [if_neg (by omega), dWrites_on _ hD, if_pos rfl]
 rw [e] at h9
 exact h9
theorem Sync_on_j {B : Nat} (w : World) (g gl n : Nat) (D : DK) (T : LT) (h : JM B w g gl n D T) (hB : B ≤ w.heap.size) (hD : OnD D) :
  Calls Try.prog 16 #[.pointer (some ⟨gl, 0, none⟩)] w fun e w' => e = .returned (.int .i64 0) ∧ JM B w' g gl n (dLaid D D.now) T ∧ Below B w w' := by
 have h9 := Sync_j w g gl n D T h hB
 rw [dSync_on hD] at h9
 exact h9
theorem lit_kept {B : Nat} {w0 w : World} {v : Value} {l : List UInt8} (h : Bs w v l) (hv : ∀ k, inBlock v k → k < B ∨ w0.heap.size ≤ k) : ∀ w', Kept (JS B w0) w w' → Bs w' v l := fun _ hk => h.kept1 hk (fun _ k hi hs => by
 have h1 := hs.1
 have h2 := hs.2
 rcases hv k hi with e | e <;> omega)
theorem inBlock_slice {b o n c k : Nat} (h : inBlock (.slice (some ⟨b, o, none⟩) n c) k) : k = b := by
 obtain ⟨ad, n', c', e, rfl⟩ := h
 simp only [Value.slice.injEq, Option.some.injEq] at e
 rw [← e.1]
theorem Bs.lit1 (w : World) (x : UInt8) (t : TypeId) : Bs (w.alloc (.cells #[.int .u8 (x.toNat : Int)] t (1, 2))) (.slice (some ⟨w.heap.size, 0, none⟩) 1 1) [x] := Bs.block (l := [x]) (heap_new rfl) (Nat.le_refl _) (by simp [maxLen])
theorem wk_fit : (rowsOf (0 + 1) 0 [115]).length ≤ 8 / 2 := by rw [rowsOf_length]; decide
theorem wk_rows : (recRows 1 (0 + 1) [[97], [98]]).length = 2 := by simp [recRows, rowsOf_length, needN]
theorem wk_open : openT 8 (puts (first1 8 [115]) 1 (recRows 1 1 [[97], [98]])) = ⟨0, ⟨1, [115], [[97], [98]], 3⟩, false⟩ := by
 have hf : (rowsOf 1 0 [115]).length = 1 := by rw [rowsOf_length]; decide
 have hr : (recRows 1 1 [[97], [98]]).length = 2 := wk_rows
 have h0 : (rowsOf 1 0 [115]).length ≤ 8 / 2 := by rw [hf]; decide
 have h1 := first1_holds (n := 8) h0
 have h2 : Holds (puts (first1 8 [115]) (0 + ((rowsOf 1 0 [115]).length + 0)) (recRows 1 1 [[97], [98]])) 0 (8 / 2) 1 [115] [[97], [98]] := append_holds (qs := [[97], [98]]) h1 (by rw [first1_length]; decide) (by show (rowsOf 1 0 [115]).length + 0 + (recRows 1 (0 + 1) [[97], [98]]).length ≤ 4; rw [hf, wk_rows]; decide)
 rw [hf] at h2
 change Holds (puts (first1 8 [115]) 1 (recRows 1 1 [[97], [98]])) 0 (8 / 2) 1 [115] [[97], [98]] at h2
 have h3 := h2.read (by decide) (by decide) (by decide) (by decide) (by decide)
 have h4 : readL (halfOf (puts (first1 8 [115]) 1 (recRows 1 1 [[97], [98]])) (8 / 2) (8 / 2)) = ⟨0, [], [], 0⟩ := by
  rw [puts_other (by rw [hr, first1_length]; decide) (by rw [hr]; left; decide), first1_other h0]
  exact readL_zeros _
 rw [hf, hr] at h3
 have h5 := openT_is h3 h4
 rw [if_pos (by decide)] at h5
 exact h5
theorem wk_below (w : World) : Below w.heap.size w (((w.alloc (.cells #[.int .u8 97] 5 (1, 2))).alloc (.cells #[.int .u8 98] 5 (1, 2))).alloc (.cells #[.slice (some ⟨w.heap.size, 0, none⟩) 1 1, .slice (some ⟨w.heap.size + 1, 0, none⟩) 1 1] 22)) := (((Below.refl w.heap.size w).alloc (Nat.le_refl _) _).alloc (by simp) _).alloc (by simp <;> omega) _
theorem wk_lits {B : Nat} (w : World) : ∀ w', Kept (JS B w) (((w.alloc (.cells #[.int .u8 97] 5 (1, 2))).alloc (.cells #[.int .u8 98] 5 (1, 2))).alloc (.cells #[.slice (some ⟨w.heap.size, 0, none⟩) 1 1, .slice (some ⟨w.heap.size + 1, 0, none⟩) 1 1] 22)) w' → Bss w' (.slice (some ⟨w.heap.size + 1 + 1, 0, none⟩) 2 2) [[97], [98]] := by
 intro w' hk
 have h0 : (((w.alloc (.cells #[.int .u8 97] 5 (1, 2))).alloc (.cells #[.int .u8 98] 5 (1, 2))).alloc (.cells #[.slice (some ⟨w.heap.size, 0, none⟩) 1 1, .slice (some ⟨w.heap.size + 1, 0, none⟩) 1 1] 22)).heap[w.heap.size]? = some (.cells #[.int .u8 97] 5 (1, 2)) := by
  rw [heap_at, if_neg (by simp; omega), heap_at, if_neg (by simp), heap_at, if_pos rfl]
 have h1 : (((w.alloc (.cells #[.int .u8 97] 5 (1, 2))).alloc (.cells #[.int .u8 98] 5 (1, 2))).alloc (.cells #[.slice (some ⟨w.heap.size, 0, none⟩) 1 1, .slice (some ⟨w.heap.size + 1, 0, none⟩) 1 1] 22)).heap[w.heap.size + 1]? = some (.cells #[.int .u8 98] 5 (1, 2)) := by
  rw [heap_at, if_neg (by simp), heap_at, if_pos (by simp)]
 have h2 : (((w.alloc (.cells #[.int .u8 97] 5 (1, 2))).alloc (.cells #[.int .u8 98] 5 (1, 2))).alloc (.cells #[.slice (some ⟨w.heap.size, 0, none⟩) 1 1, .slice (some ⟨w.heap.size + 1, 0, none⟩) 1 1] 22)).heap[w.heap.size + 1 + 1]? = some (.cells #[.slice (some ⟨w.heap.size, 0, none⟩) 1 1, .slice (some ⟨w.heap.size + 1, 0, none⟩) 1 1] 22 (0, 0)) := by
  rw [heap_at, if_pos (by simp)]
 have g0 := (hk.block w.heap.size (by simp; omega) (fun e => by have := e.2; omega)).trans h0
 have g1 := (hk.block (w.heap.size + 1) (by simp) (fun e => by have := e.2; omega)).trans h1
 have g2 := (hk.block (w.heap.size + 1 + 1) (by simp) (fun e => by have := e.2; omega)).trans h2
 exact Bss.mk2 g2 (Bs.block (l := [97]) g0 (by simp) (by simp [maxLen])) (Bs.block (l := [98]) g1 (by simp) (by simp [maxLen]))
set_option maxRecDepth 100000 in
set_option maxHeartbeats 3200000 in
theorem wakes_any (w : World) : Calls Try.prog 20 #[] w fun e w' => e = .returned (.bool true) ∧ Below w.heap.size w w' := by
 have hn := New_j w 8 (by omega) (by omega)
 rw [show ((8 : Nat) : Int) = 8 from rfl] at hn
 have kc := fun (w : World) (C : Array Value) (n c g : Nat) (hg : g = w.heap.size) => Joins.run_convert_bytes_const_at (P := Try.prog) w 22 5 C n c g hg Try.underlying22 Try.underlying5
 go_enter Try.func20, Try.ntmps20
 go_wp2_with fail
 refine hn.mono ?_
 clear hn
 rintro e w1 ⟨g, rfl, hd1, hb1⟩
 have HB1 := Lib.hid hb1
 have hop := Open_j w1 g 8 _ hd1 rfl (by omega) hb1.size
 rw [openT_new] at hop
 clear hd1 hb1
 go_wp2_with fail
 refine hop.mono ?_
 clear hop
 rintro e w2 ⟨gl, rfl, hj2, _, hb2⟩
 have HB2 := Lib.hid (HB1.out.next hb2)
 have HJ2 := Lib.hid hj2
 have hlit := Bs.lit1 w2 115 5
 have hbg := Begin_on (B := w.heap.size) w2 (w2.alloc (.cells #[.int .u8 ((115 : UInt8).toNat : Int)] 5 (1, 2))) g gl 8 _ _ hj2 ((Below.refl _ _).alloc (Nat.le_refl _) _) HB2.out.size (.slice (some ⟨w2.heap.size, 0, none⟩) 1 1) [115] (lit_kept hlit (fun k hi => .inr (Nat.le_of_eq (inBlock_slice hi).symm))) (OnD.new 8) (.inr rfl) (by decide) (by decide) wk_fit (by decide)
 have HB2a := Lib.hid (HB2.out.alloc HB2.out.size (.cells #[.int .u8 ((115 : UInt8).toNat : Int)] 5 (1, 2)))
 rw [show ((115 : UInt8).toNat : Int) = 115 from rfl] at hbg HB2a
 clear hj2 hlit hb2
 go_wp2_with fail
 (with_reducible refine hbg.mono ?_)
 clear hbg HJ2
 rintro e w3 ⟨rfl, hj3, hb3⟩
 have HB3 := Lib.hid (HB2a.out.trans hb3)
 have hon : OnD (dLaid (DK.new 8) (puts (puts (DK.new 8).now (8 / 2 - 8 / 2) (List.replicate (8 / 2) zero64)) (8 / 2 - 8 / 2) (rowsOf (0 + 1) 0 [115]))) := (OnD.new 8).laid _
 obtain ⟨D3, hD3⟩ : ∃ z, z = dLaid (DK.new 8) (puts (puts (DK.new 8).now (8 / 2 - 8 / 2) (List.replicate (8 / 2) zero64)) (8 / 2 - 8 / 2) (rowsOf (0 + 1) 0 [115])) := ⟨_, rfl⟩
 have hD3n : D3.now = first1 8 [115] := by rw [hD3]; rfl
 have hD3o : D3.op = [] := by rw [hD3]; rfl
 rw [← hD3] at hon hj3
 have hrl : (rowsOf (0 + 1) 0 [115]).length = 1 := by rw [rowsOf_length]; decide
 rw [hrl] at hj3
 clear hD3 hb3 HB2a
 have ha := wk_lits (B := w.heap.size) w3
 have hap := Append_on (B := w.heap.size) w3 _ g gl 8 D3 _ hj3 (wk_below w3) HB3.out.size _ [[97], [98]] ha hon rfl (by decide) (by show 1 + (recRows 1 (0 + 1) [[97], [98]]).length ≤ 4; rw [wk_rows]; decide) (by decide) (by decide) (by decide) (by decide) (by rw [hD3o]; decide)
 have HB3a := Lib.hid (HB3.out.trans ((wk_below w3).mono HB3.out.size))
 clear ha
 go_wp2_with fail
 (with_reducible refine hap.mono ?_)
 clear hap hj3
 rintro e w4 ⟨rfl, hj4, hb4⟩
 have HB4 := Lib.hid (HB3a.out.trans hb4)
 obtain ⟨D4, hD4⟩ : ∃ z, z = dPuts D3 (8 / 2 - 8 / 2 + 1) (recRows (0 + 1) (([] : List (List UInt8)).length + 1) [[97], [98]]) := ⟨_, rfl⟩
 have hon4 : OnD D4 := by rw [hD4]; exact hon.puts _ _
 have hD4n : D4.now = puts (first1 8 [115]) 1 (recRows 1 1 [[97], [98]]) := by rw [hD4]; show puts D3.now _ _ = _; rw [hD3n]; rfl
 have hj4' : JM w.heap.size w4 g gl 8 D4 ⟨0, ⟨1, [115], [[97], [98]], 1 + (recRows 1 (0 + 1) [[97], [98]]).length⟩, true⟩ := by rw [hD4]; exact hj4
 have hsy := Sync_on_j (B := w.heap.size) w4 g gl 8 D4 _ hj4' HB4.out.size hon4
 clear hb4 hj4 hj4' HB3a hD4
 go_wp2_with fail
 (with_reducible refine hsy.mono ?_)
 clear hsy
 rintro e w5 ⟨rfl, hj5, hb5⟩
 have HB5 := Lib.hid (HB4.out.trans hb5)
 have hop5 := Open_j (B := w.heap.size) w5 g 8 _ hj5.disk hon4.off (by decide) HB5.out.size
 have hopn : openT 8 (dLaid D4 D4.now).now = ⟨0, ⟨1, [115], [[97], [98]], 3⟩, false⟩ := by
  rw [show (dLaid D4 D4.now).now = D4.now from rfl, hD4n]
  exact wk_open
 rw [hopn] at hop5
 clear hb5 hj5 hopn hD4n hon4 hon hD3n hD3o hrl
 go_wp2_with fail
 (with_reducible refine hop5.mono ?_)
 clear hop5
 rintro e w6 ⟨gm, rfl, hj6, _, hb6⟩
 have HB6 := Lib.hid (HB5.out.next hb6)
 have hge := Gen_j w6 g gm 8 _ _ hj6
 have hrc := Recs_j w6 g gm 8 _ _ hj6 (by decide) (by decide)
 rw [show (((⟨0, ⟨1, [115], [[97], [98]], 3⟩, false⟩ : LT).half.gen : Nat) : Int) = 1 from rfl] at hge
 clear hj6 hb6
 go_wp2_with fail
 (with_reducible refine hge.mono ?_)
 clear hge
 rintro e w7 ⟨rfl, rfl⟩
 go_wp2_with fail
 (with_reducible refine hrc.mono ?_)
 clear hrc
 rintro e w8 ⟨v8, rfl, hv8, hb8⟩
 obtain ⟨a8, c8, rfl, _, _⟩ := hv8.bss.len
 have HB8 := Lib.hid (HB6.out.next hb8)
 clear hv8 hb8
 go_wp2_with fail
 go_ret
 exact ⟨rfl, HB8.out⟩
end Cam
