import Derived.Test.YtlnclfiiplpaiaaJnX
/- ch. 07: two disks and their logs side by side. -/
namespace Cam
open Go Go.RowKit Go.Proofs

def J2 (B : Nat) (w : World) (n ga la : Nat) (DA : DK) (TA : LT) (gb lb : Nat) (DB : DK) (TB : LT) : Prop :=
  ∃ FA FB, JF FA w ga la n DA TA ∧ JF FB w gb lb n DB TB ∧ (∀ q, FA q → ¬ FB q) ∧ ∀ q, FA q ∨ FB q → B ≤ q
theorem J2.symm {B : Nat} {w : World} {n ga la gb lb : Nat} {DA DB : DK} {TA TB : LT} (h : J2 B w n ga la DA TA gb lb DB TB) : J2 B w n gb lb DB TB ga la DA TA := by
  obtain ⟨FA, FB, h1, h2, h3, h4⟩ := h
  exact ⟨FB, FA, h2, h1, fun q e1 e2 => h3 q e2 e1, fun q e => h4 q e.symm⟩
theorem J2.below {B : Nat} {w w' : World} {n ga la gb lb : Nat} {DA DB : DK} {TA TB : LT} (h : J2 B w n ga la DA TA gb lb DB TB) (hb : Below w.heap.size w w') : J2 B w' n ga la DA TA gb lb DB TB := by
  obtain ⟨FA, FB, h1, h2, h3, h4⟩ := h
  exact ⟨FA, FB, h1.below hb, h2.below hb, h3, h4⟩
theorem J2.fst {B : Nat} {w : World} {n ga la gb lb : Nat} {DA DB : DK} {TA TB : LT} (h : J2 B w n ga la DA TA gb lb DB TB) : JM B w ga la n DA TA := by
  obtain ⟨FA, FB, h1, h2, h3, h4⟩ := h
  exact h1.jm (fun q e => h4 q (.inl e))
theorem J2.next {B : Nat} {w w' : World} {n ga la gb lb : Nat} {DB D' : DK} {TB T' : LT} {FA FB : Nat → Prop} (h2 : JF FB w gb lb n DB TB) (h3 : ∀ q, FA q → ¬ FB q) (h4 : ∀ q, FA q ∨ FB q → B ≤ q) (hB : B ≤ w.heap.size)
    (h : JFP FA w ga la n D' T' w') : J2 B w' n ga la D' T' gb lb DB TB ∧ Below B w w' := by
  obtain ⟨F', hj, hk, hf⟩ := h
  refine ⟨⟨F', FB, hj, h2.kept hk (fun q e1 e2 => h3 q e2 e1), fun q e1 e2 => ?_, fun q e => ?_⟩, keptB hk (fun q e => h4 q (.inl e)) hB⟩
  · rcases hf q e1 with e | e
    · exact h3 q e e2
    · have := h2.lt q e2; omega
  · rcases e with e | e
    · rcases hf q e with e | e
      · exact h4 q (.inl e)
      · omega
    · exact h4 q (.inr e)
theorem Begin_2 {B : Nat} (w0 w : World) (n ga la : Nat) (D : DK) (T : LT) (gb lb : Nat) (DB : DK) (TB : LT) (h : J2 B w0 n ga la D T gb lb DB TB) (hw : Below w0.heap.size w0 w) (hB : B ≤ w0.heap.size) (v : Value) (s : List UInt8) (hsn : ∀ w', Kept (JS B w0) w w' → Bs w' v s) (hD : OnD D)
    (hfr : T.from_ = 0 ∨ T.from_ = n / 2) (hgen : T.half.gen < 1099511627776) (hs : s.length ≤ 65536) (hfit : (rowsOf (T.half.gen + 1) 0 s).length ≤ n / 2) (hop : D.op.length ≤ 500000) :
    Calls Try.prog 14 #[.pointer (some ⟨la, 0, none⟩), v] w fun e w' => e = .returned (.int .i64 0) ∧
      J2 B w' n ga la (dLaid D (puts (puts D.now (n / 2 - T.from_) (List.replicate (n / 2) zero64)) (n / 2 - T.from_) (rowsOf (T.half.gen + 1) 0 s))) ⟨n / 2 - T.from_, ⟨T.half.gen + 1, s, [], (rowsOf (T.half.gen + 1) 0 s).length⟩, true⟩ gb lb DB TB ∧ Below B w w' := by
  obtain ⟨FA, FB, h1, h2, h3, h4⟩ := h
  refine (Begin_f w ga la n D T (h1.below hw) v s (fun w' hk => hsn w' (hk.weaken (fun q e => ⟨h4 q (.inl e), h1.lt q e⟩))) hD hfr hgen hs hfit hop).mono ?_
  rintro e w' ⟨he, hj⟩
  exact ⟨he, J2.next (h2.below hw) h3 h4 (Nat.le_trans hB hw.size) hj⟩
theorem Append_2 {B : Nat} (w0 w : World) (n ga la : Nat) (D : DK) (T : LT) (gb lb : Nat) (DB : DK) (TB : LT) (h : J2 B w0 n ga la D T gb lb DB TB) (hw : Below w0.heap.size w0 w) (hB : B ≤ w0.heap.size) (v : Value) (rs : List (List UInt8)) (hrs : ∀ w', Kept (JS B w0) w w' → Bss w' v rs) (hD : OnD D)
    (hbg : T.begun = true) (hfr : T.from_ ≤ n / 2) (hfit : T.half.fin + (recRows T.half.gen (T.half.recs.length + 1) rs).length ≤ n / 2) (hgen : T.half.gen ≤ 1099511627776) (hnr : T.half.recs.length ≤ 1000000) (hle : ∀ r ∈ rs, r.length ≤ 65536) (hns : rs.length ≤ 1000) (hop : D.op.length ≤ 500000) :
    Calls Try.prog 15 #[.pointer (some ⟨la, 0, none⟩), v] w fun e w' => e = .returned (.int .i64 0) ∧
      J2 B w' n ga la (dPuts D (T.from_ + T.half.fin) (recRows T.half.gen (T.half.recs.length + 1) rs)) ⟨T.from_, ⟨T.half.gen, T.half.snap, T.half.recs ++ rs, T.half.fin + (recRows T.half.gen (T.half.recs.length + 1) rs).length⟩, T.begun⟩ gb lb DB TB ∧ Below B w w' := by
  obtain ⟨FA, FB, h1, h2, h3, h4⟩ := h
  refine (Append_f w ga la n D T (h1.below hw) v rs (fun w' hk => hrs w' (hk.weaken (fun q e => ⟨h4 q (.inl e), h1.lt q e⟩))) hD hbg hfr hfit hgen hnr hle hns hop).mono ?_
  rintro e w' ⟨he, hj⟩
  exact ⟨he, J2.next (h2.below hw) h3 h4 (Nat.le_trans hB hw.size) hj⟩
theorem Sync_2 {B : Nat} (w : World) (n ga la : Nat) (D : DK) (T : LT) (gb lb : Nat) (DB : DK) (TB : LT) (h : J2 B w n ga la D T gb lb DB TB) (hB : B ≤ w.heap.size) (hD : OnD D) :
    Calls Try.prog 16 #[.pointer (some ⟨la, 0, none⟩)] w fun e w' => e = .returned (.int .i64 0) ∧ J2 B w' n ga la (dLaid D D.now) T gb lb DB TB ∧ Below B w w' := by
  obtain ⟨FA, FB, h1, h2, h3, h4⟩ := h
  refine (Sync_f w ga la n D T h1 hD).mono ?_
  rintro e w' ⟨he, hj⟩
  exact ⟨he, J2.next h2 h3 h4 hB hj⟩
/-- two new disks, opened one behind the other -/
theorem J2.open {B : Nat} {w1 w2 w3 w4 : World} {n ga la gb lb : Nat} {FA Fb FB Fa : Nat → Prop} {DA DB : DK} {TA TB : LT} (ha : DX w1 ga Fa n DA) (hja : JF FA w3 ga la n DA TA) (hjb : JF FB w4 gb lb n DB TB)
    (hfa : ∀ q, FA q → Fa q ∨ w2.heap.size ≤ q) (hfb : ∀ q, FB q → Fb q ∨ w3.heap.size ≤ q) (hb2 : ∀ q, Fb q → w1.heap.size ≤ q ∧ q < w2.heap.size) (h34 : Below w3.heap.size w3 w4) (hB : ∀ q, Fa q → B ≤ q) (hw : B ≤ w1.heap.size ∧ w1.heap.size ≤ w2.heap.size ∧ w2.heap.size ≤ w3.heap.size) : J2 B w4 n ga la DA TA gb lb DB TB := by
  refine ⟨FA, FB, hja.below h34, hjb, fun q e1 e2 => ?_, fun q e => ?_⟩
  · rcases hfb q e2 with h | h
    · have h5 := hb2 q h
      rcases hfa q e1 with h6 | h6
      · have := ha.lt q h6; omega
      · omega
    · have := hja.lt q e1; omega
  · rcases e with e | e
    · rcases hfa q e with h | h
      · exact hB q h
      · omega
    · rcases hfb q e with h | h
      · have := hb2 q h; omega
      · omega
theorem puts_append : ∀ (A B : List (List UInt8)) (N : List (List UInt8)) (k : Nat), puts N k (A ++ B) = puts (puts N k A) (k + A.length) B
  | [], B, N, k => by simp [puts]
  | a :: A, B, N, k => by
    rw [List.cons_append, puts, puts_append A B (N.set k a) (k + 1), puts, List.length_cons, Nat.add_assoc, Nat.add_comm 1]
end Cam
