import Derived.Test.YtlnclfiiplpaiaaJnW
/- ch. 07: a disk and its log with their blocks named: for two of them side by side, or beside memory of the call's own. -/
namespace Cam
open Go Go.RowKit Go.Proofs

/-- a disk and a log of it; F: the blocks of both -/
def JF (F : Nat → Prop) (w : World) (g gl n : Nat) (D : DK) (T : LT) : Prop := ∃ Fd Fl, DX w g Fd n D ∧ LX w gl Fl g T ∧ (∀ k, Fd k → ¬ Fl k) ∧ ∀ k, F k ↔ Fd k ∨ Fl k
theorem JF.lt {F : Nat → Prop} {w : World} {g gl n : Nat} {D : DK} {T : LT} (h : JF F w g gl n D T) (k : Nat) (hk : F k) : k < w.heap.size := by
  obtain ⟨Fd, Fl, h1, h2, h3, h4⟩ := h
  rcases (h4 k).1 hk with e | e
  · exact h1.lt k e
  · exact h2.lt k e
theorem JF.kept {F S : Nat → Prop} {w w' : World} {g gl n : Nat} {D : DK} {T : LT} (h : JF F w g gl n D T) (hk : Kept S w w') (hS : ∀ k, F k → ¬ S k) : JF F w' g gl n D T := by
  obtain ⟨Fd, Fl, h1, h2, h3, h4⟩ := h
  exact ⟨Fd, Fl, h1.kept hk (fun k e => hS k ((h4 k).2 (.inl e))), h2.kept hk (fun k e => hS k ((h4 k).2 (.inr e))), h3, h4⟩
theorem JF.below {F : Nat → Prop} {w w' : World} {g gl n : Nat} {D : DK} {T : LT} (h : JF F w g gl n D T) (hb : Below w.heap.size w w') : JF F w' g gl n D T := h.kept (Kept.of_below hb) (fun _ _ e => e)
theorem JM.jf {B : Nat} {w : World} {g gl n : Nat} {D : DK} {T : LT} (h : JM B w g gl n D T) : ∃ F, JF F w g gl n D T ∧ ∀ k, F k → B ≤ k := by
  obtain ⟨Fd, Fl, h1, h2, h3, h4⟩ := h
  exact ⟨fun k => Fd k ∨ Fl k, ⟨Fd, Fl, h1, h2, h3, fun _ => Iff.rfl⟩, h4⟩
theorem JF.jm {B : Nat} {F : Nat → Prop} {w : World} {g gl n : Nat} {D : DK} {T : LT} (h : JF F w g gl n D T) (hB : ∀ k, F k → B ≤ k) : JM B w g gl n D T := by
  obtain ⟨Fd, Fl, h1, h2, h3, h4⟩ := h
  exact ⟨Fd, Fl, h1, h2, h3, fun k e => hB k ((h4 k).2 e)⟩
theorem JF.jm0 {F : Nat → Prop} {w : World} {g gl n : Nat} {D : DK} {T : LT} (h : JF F w g gl n D T) : JM 0 w g gl n D T := h.jm (fun _ _ => Nat.zero_le _)
/-- what a method that turns them leaves -/
def JFP (F : Nat → Prop) (w : World) (g gl n : Nat) (D : DK) (T : LT) (w' : World) : Prop := ∃ F', JF F' w' g gl n D T ∧ Kept F w w' ∧ ∀ k, F' k → F k ∨ w.heap.size ≤ k
theorem JPost.jf {F Fd Fl : Nat → Prop} {w w' : World} {g gl n : Nat} {D : DK} {T : LT} (h : JPost w g gl Fd Fl n D T w') (hF : ∀ k, F k ↔ Fd k ∨ Fl k) : JFP F w g gl n D T w' := by
  obtain ⟨Fd', Fl', h1, h2, h3, h4, h5⟩ := h
  refine ⟨fun k => Fd' k ∨ Fl' k, ⟨Fd', Fl', h1, h2, h3, fun _ => Iff.rfl⟩, h4.weaken (fun k e => (hF k).2 e), fun k e => ?_⟩
  rcases h5 k e with e | e | e
  · exact .inl ((hF k).2 (.inl e))
  · exact .inl ((hF k).2 (.inr e))
  · exact .inr e
theorem Begin_f {F : Nat → Prop} (w : World) (g gl n : Nat) (D : DK) (T : LT) (h : JF F w g gl n D T) (v : Value) (s : List UInt8) (hsn : ∀ w', Kept F w w' → Bs w' v s) (hD : OnD D)
    (hfr : T.from_ = 0 ∨ T.from_ = n / 2) (hgen : T.half.gen < 1099511627776) (hs : s.length ≤ 65536) (hfit : (rowsOf (T.half.gen + 1) 0 s).length ≤ n / 2) (hop : D.op.length ≤ 500000) :
    Calls Try.prog 14 #[.pointer (some ⟨gl, 0, none⟩), v] w fun e w' => e = .returned (.int .i64 0) ∧
      JFP F w g gl n (dLaid D (puts (puts D.now (n / 2 - T.from_) (List.replicate (n / 2) zero64)) (n / 2 - T.from_) (rowsOf (T.half.gen + 1) 0 s))) ⟨n / 2 - T.from_, ⟨T.half.gen + 1, s, [], (rowsOf (T.half.gen + 1) 0 s).length⟩, true⟩ w' := by
  obtain ⟨Fd, Fl, h1, h2, h3, h4⟩ := h
  refine (Begin_go w gl g n Fd Fl D T h1 h2 h3 v s (fun w' hk => hsn w' (hk.weaken (fun k e => (h4 k).2 (.inl e)))) hfr hgen hs hfit hop).mono ?_
  rintro e w' ⟨he, hj⟩
  rw [dPhases_on2 hD, if_pos rfl] at hj
  rw [dPhases_on2 hD] at he
  exact ⟨he, hj.jf h4⟩
theorem Append_f {F : Nat → Prop} (w : World) (g gl n : Nat) (D : DK) (T : LT) (h : JF F w g gl n D T) (v : Value) (rs : List (List UInt8)) (hrs : ∀ w', Kept F w w' → Bss w' v rs) (hD : OnD D)
    (hbg : T.begun = true) (hfr : T.from_ ≤ n / 2) (hfit : T.half.fin + (recRows T.half.gen (T.half.recs.length + 1) rs).length ≤ n / 2) (hgen : T.half.gen ≤ 1099511627776) (hnr : T.half.recs.length ≤ 1000000) (hle : ∀ r ∈ rs, r.length ≤ 65536) (hns : rs.length ≤ 1000) (hop : D.op.length ≤ 500000) :
    Calls Try.prog 15 #[.pointer (some ⟨gl, 0, none⟩), v] w fun e w' => e = .returned (.int .i64 0) ∧
      JFP F w g gl n (dPuts D (T.from_ + T.half.fin) (recRows T.half.gen (T.half.recs.length + 1) rs)) ⟨T.from_, ⟨T.half.gen, T.half.snap, T.half.recs ++ rs, T.half.fin + (recRows T.half.gen (T.half.recs.length + 1) rs).length⟩, T.begun⟩ w' := by
  obtain ⟨Fd, Fl, h1, h2, h3, h4⟩ := h
  refine (Append_go w gl g n Fd Fl D T h1 h2 h3 v rs (fun w' hk => hrs w' (hk.weaken (fun k e => (h4 k).2 e))) hbg hD.off hfr (by omega) hgen hnr hle hns hop).mono ?_
  rintro e w' ⟨he, hj⟩
  have e1 : appR n D T rs = (0, dPuts D (T.from_ + T.half.fin) (recRows T.half.gen (T.half.recs.length + 1) rs), ⟨T.from_, ⟨T.half.gen, T.half.snap, T.half.recs ++ rs, T.half.fin + (recRows T.half.gen (T.half.recs.length + 1) rs).length⟩, T.begun⟩) := by
    unfold appR
    rw [if_neg (by omega), dWrites_on _ hD, if_pos rfl]
  rw [e1] at he hj
  exact ⟨he, hj.jf h4⟩
theorem Sync_f {F : Nat → Prop} (w : World) (g gl n : Nat) (D : DK) (T : LT) (h : JF F w g gl n D T) (hD : OnD D) :
    Calls Try.prog 16 #[.pointer (some ⟨gl, 0, none⟩)] w fun e w' => e = .returned (.int .i64 0) ∧ JFP F w g gl n (dLaid D D.now) T w' := by
  obtain ⟨Fd, Fl, h1, h2, h3, h4⟩ := h
  refine (LSync_any w g gl n Fd Fl D T h1 h2 h3).mono ?_
  rintro e w' ⟨he, hj⟩
  rw [dSync_on hD] at he hj
  exact ⟨he, hj.jf h4⟩
theorem Open_f (w : World) (g n : Nat) (Fd : Nat → Prop) (D : DK) (h : DX w g Fd n D) (hoff : D.off = false) (hn : 4 ≤ n) :
    Calls Try.prog 13 #[.pointer (some ⟨g, 0, none⟩)] w fun e w' => ∃ gl F, e = .returned (.tuple #[.pointer (some ⟨gl, 0, none⟩), .int .i64 0]) ∧ JF F w' g gl n D (openT n D.now) ∧ (∀ k, F k → Fd k ∨ w.heap.size ≤ k) ∧ Below w.heap.size w w' := by
  refine (Open_ok w g n Fd D h hoff hn).mono ?_
  rintro e w' ⟨gl, Fl, rfl, hl, hFl, hb⟩
  refine ⟨gl, fun k => Fd k ∨ Fl k, rfl, ⟨Fd, Fl, h.below hb, hl, fun k e1 e2 => ?_, fun _ => Iff.rfl⟩, fun k e => ?_, hb⟩
  · have := h.lt k e1
    have := hFl k e2
    omega
  · rcases e with e | e
    · exact .inl e
    · exact .inr (hFl k e)
/-- blocks of unlike methods stay apart -/
theorem JFP.apart {F S : Nat → Prop} {w w' : World} {F' : Nat → Prop} (hF : ∀ k, F' k → F k ∨ w.heap.size ≤ k) (hd : ∀ k, F k → ¬ S k) (hS : ∀ k, S k → k < w.heap.size) (_ : Kept F w w') : ∀ k, F' k → ¬ S k := fun k h1 h2 => by
  rcases hF k h1 with e | e
  · exact hd k e h2
  · have := hS k h2; omega
/-- a block's copy in a variable of the call's own -/
theorem box_world (w : World) (b : List UInt8) (hb : b.length = 64) :
    Below w.heap.size w ((w.alloc (.cells (bvs zero64).toArray 36)).setCells w.heap.size 0 (bvs b)) ∧ HC ((w.alloc (.cells (bvs zero64).toArray 36)).setCells w.heap.size 0 (bvs b)) w.heap.size (bvs b) ∧
      (w.alloc (.cells (bvs zero64).toArray 36)).there w.heap.size 0 (bvs b).length := by
  have hbox := (HC.new (w := w) (C := bvs zero64) (t := 36))
  have hbx := hbox.puts (vs := bvs b) (o := 0) (by rw [bvs_length, bvs_length, hb, zero64_length]; omega)
  rw [splice_all _ _ (by rw [hb, zero64_length])] at hbx
  exact ⟨((Below.refl _ _).alloc (Nat.le_refl _) _).trans ((setCells_kept _ _ _ _).below (fun j hj e => by omega) (by simp)), hbx, hbox.room zero64_length hb⟩
end Cam
