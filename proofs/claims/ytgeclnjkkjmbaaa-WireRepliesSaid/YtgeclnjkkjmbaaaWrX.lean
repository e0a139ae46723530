import Derived.Test.YtgeclnjkkjmbaaaWrT
import Derived.Test.YtgeclnjkkjmbaaaWrN
/- wire.Reply. -/
namespace Cam
open Go Go.RowKit Go.Proofs

/-- are the lists too long? -/
def repW (D : List DT) (F : List FT) : Bool := decide (1024 < D.length) || decide (1024 < F.length)
theorem encRep_length (xc xn xa : Int) (D : List DT) (F : List FT) (hr : ∀ n ∈ [xc, xn, xa], -9223372036854775808 ≤ n ∧ n ≤ 9223372036854775807) (hrd : ∀ x ∈ D, ∀ n ∈ x.ints, -9223372036854775808 ≤ n ∧ n ≤ 9223372036854775807) (hrf : ∀ x ∈ F, ∀ n ∈ x.ints, -9223372036854775808 ≤ n ∧ n ≤ 9223372036854775807) : (encRep xc xn xa D F).length ≤ 200000 := by
  have h1 := encIs_length [xc, xn, xa] hr
  have h2 := lw_length DT.ints 3 D (fun _ _ => rfl) hrd
  have h3 := lw_length FT.ints 8 F (fun _ _ => rfl) hrf
  unfold encRep
  simp at h1 ⊢
  omega
set_option maxRecDepth 100000 in
set_option maxHeartbeats 1600000 in
theorem Reply_any (w : World) (xc xn xa : Int) (vd vf : Value) (D : List DT) (F : List FT) (hr : ∀ n ∈ [xc, xn, xa], -9223372036854775808 ≤ n ∧ n ≤ 9223372036854775807)
    (hd : Rs DT.vs 3 w vd D) (hf : Rs FT.vs 8 w vf F) (hrd : ∀ x ∈ D, ∀ n ∈ x.ints, -9223372036854775808 ≤ n ∧ n ≤ 9223372036854775807) (hrf : ∀ x ∈ F, ∀ n ∈ x.ints, -9223372036854775808 ≤ n ∧ n ≤ 9223372036854775807) :
    Calls Try.prog 18 #[.agg #[.int .i64 xc, .int .i64 xn, .int .i64 xa, vd, vf]] w (BytesPost w (repW D F) (encRep xc xn xa D F)) := by
  have hle := encRep_length xc xn xa D F hr hrd hrf
  obtain ⟨ad, cd, rfl, hcd, hmd⟩ := hd.shape
  obtain ⟨af, cf, rfl, hcf, hmf⟩ := hf.shape
  have hb1 := (Below.refl w.heap.size w).alloc (Nat.le_refl _) (.cells #[.int .i64 xc, .int .i64 xn, .int .i64 xa, .slice ad D.length cd, .slice af F.length cf] 41)
  have hb2 := hb1.alloc hb1.size (.cells #[.slice none 0 0, .bool false, .bool false] 83)
  have hp := PW.new3 (w := w.alloc (.cells #[.int .i64 xc, .int .i64 xn, .int .i64 xa, .slice ad D.length cd, .slice af F.length cf] 41)) (tw := 83) (g := w.heap.size + 1) (by simp)
  have hc : HT (w.alloc (.cells #[.int .i64 xc, .int .i64 xn, .int .i64 xa, .slice ad D.length cd, .slice af F.length cf] 41)) w.heap.size 41 [.int .i64 xc, .int .i64 xn, .int .i64 xa, .slice ad D.length cd, .slice af F.length cf] := HT.new (w := w)
  have hc2 := hc.below ((Below.refl _ _).alloc (Nat.le_refl _) (.cells #[.slice none 0 0, .bool false, .bool false] 83))
  have HG : Hid (((w.alloc (.cells #[.int .i64 xc, .int .i64 xn, .int .i64 xa, .slice ad D.length cd, .slice af F.length cf] 41)).alloc (.cells #[.slice none 0 0, .bool false, .bool false] 83)).heap[w.heap.size]? = some (.cells #[.int .i64 xc, .int .i64 xn, .int .i64 xa, .slice ad D.length cd, .slice af F.length cf] 41 (0, 0))) := hc2
  have HSZ : Hid ((Try.prog.info? 41).map (·.size) = some (#[.int .i64 xc, .int .i64 xn, .int .i64 xa, .slice ad D.length cd, .slice af F.length cf] : Array Value).size) := by show _ = _; rw [show ((Try.prog.info? 41).map (·.size)) = some 5 from by kernel_rfl]; rfl
  have hin : ∀ w', Kept (fun k => k = w.heap.size + 1 ∨ (Value.slice none 0 0).ownBlock = some k) ((w.alloc (.cells #[.int .i64 xc, .int .i64 xn, .int .i64 xa, .slice ad D.length cd, .slice af F.length cf] 41)).alloc (.cells #[.slice none 0 0, .bool false, .bool false] 83)) w' → Below w.heap.size w w' := fun w' hk =>
    hb2.trans (hk.below (B := w.heap.size) (fun k hk e => by
      rcases e with e | e
      · omega
      · cases e) hb2.size)
  have cm := wreply_any (tw := 83) _ _ _ [] false false xc xn xa _ _ D F hp hr (fun w' hk => hd.mono (hin w' hk)) (fun w' hk => hf.mono (hin w' hk)) hrd hrf (by simp)
  obtain ⟨L, hL⟩ : ∃ L, L = encRep xc xn xa D F := ⟨_, rfl⟩
  obtain ⟨wg, hwg⟩ : ∃ b, b = repW D F := ⟨_, rfl⟩
  rw [List.nil_append, ← hL, Bool.false_or, show (decide (1024 < D.length) || decide (1024 < F.length)) = repW D F from rfl, ← hwg] at cm
  rw [← hL] at hle ⊢
  rw [← hwg]
  have HB2 := Lib.hid hb2
  clear hb1 hb2 hp hc hc2 hr hL hwg hin hd hf hrd hrf
  go_enter Try.func18, Try.ntmps18
  go_wp2_with (first
    | (refine wpList_load_row rfl 41 (.tmp 1) rfl w.heap.size rfl 41 #[.int .i64 xc, .int .i64 xn, .int .i64 xa, .slice ad D.length cd, .slice af F.length cf] (0, 0) _ HG.out Try.underlying41 rfl HSZ.out ?_)
    | fail)
  refine cm.mono ?_
  clear cm
  rintro e w2 ⟨rfl, hpo⟩
  obtain ⟨v, hp2, hb3⟩ := hpo.below HB2.out (by simp)
  have by0 := bytes_any _ w2 _ v L wg hp2 (by omega)
  unfold BytesPost at by0
  have HB3 := Lib.hid hb3
  clear hpo hp2 hb3
  generalize hbe : bE wg L = eb at by0
  have HBE := Lib.hid hbe
  clear hbe
  go_wp2_with fail
  refine by0.mono ?_
  clear by0
  rintro e w3 ⟨a, n, c, rfl, ho, hb4⟩
  have HO := Lib.hid ho
  have HB4 := Lib.hid hb4
  clear ho hb4
  go_wp2_with fail
  go_ret2
  exact ⟨a, n, c, by rw [HBE.out]; rfl, OwnB.base HO.out HB3.out.size, HB3.out.trans (HB4.out.mono HB3.out.size)⟩

end Cam
