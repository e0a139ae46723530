import Derived.Test.YtlnclfiiplpaiaaJnQ
import Derived.Test.YtlnclfiiplpaiaaJnK
/- ch. 07: a disk and a log of the call's own, in one predicate each; the methods in these terms. -/
namespace Cam
open Go Go.RowKit Go.Proofs

/-- a disk whose blocks all lie at B or behind it -/
def DJ (B : Nat) (w : World) (g n : Nat) (D : DK) : Prop := ∃ F, DX w g F n D ∧ ∀ k, F k → B ≤ k
/-- a disk and a log of it, all at B or behind it -/
def JM (B : Nat) (w : World) (g gl n : Nat) (D : DK) (T : LT) : Prop := ∃ Fd Fl, DX w g Fd n D ∧ LX w gl Fl g T ∧ (∀ k, Fd k → ¬ Fl k) ∧ ∀ k, Fd k ∨ Fl k → B ≤ k
theorem DJ.ok {B : Nat} {w : World} {g n : Nat} {D : DK} (h : DJ B w g n D) : DOk n D := by
  obtain ⟨F, h1, h2⟩ := h
  exact h1.ok
theorem DJ.below {B : Nat} {w w' : World} {g n : Nat} {D : DK} (h : DJ B w g n D) (hb : Below w.heap.size w w') : DJ B w' g n D := by
  obtain ⟨F, h1, h2⟩ := h
  exact ⟨F, h1.below hb, h2⟩
theorem JM.below {B : Nat} {w w' : World} {g gl n : Nat} {D : DK} {T : LT} (h : JM B w g gl n D T) (hb : Below w.heap.size w w') : JM B w' g gl n D T := by
  obtain ⟨Fd, Fl, h1, h2, h3, h4⟩ := h
  exact ⟨Fd, Fl, h1.below hb, h2.below hb, h3, h4⟩
theorem JM.disk {B : Nat} {w : World} {g gl n : Nat} {D : DK} {T : LT} (h : JM B w g gl n D T) : DJ B w g n D := by
  obtain ⟨Fd, Fl, h1, h2, h3, h4⟩ := h
  exact ⟨Fd, h1, fun k e => h4 k (.inl e)⟩
theorem keptB {B : Nat} {F : Nat → Prop} {w w' : World} (hk : Kept F w w') (hF : ∀ k, F k → B ≤ k) (hB : B ≤ w.heap.size) : Below B w w' := hk.below (fun k hk e => by have := hF k e; omega) hB
theorem DXPost.dj {B : Nat} {w w' : World} {g n : Nat} {F : Nat → Prop} {D : DK} (h : DXPost w g F n D w') (hF : ∀ k, F k → B ≤ k) (hB : B ≤ w.heap.size) : DJ B w' g n D ∧ Below B w w' := by
  obtain ⟨F', h1, h2, h3⟩ := h
  exact ⟨⟨F', h1, fun k e => by rcases h3 k e with e | e; exact hF k e; omega⟩, keptB h2 hF hB⟩
theorem JPost.jm {B : Nat} {w w' : World} {g gl n : Nat} {Fd Fl : Nat → Prop} {D : DK} {T : LT} (h : JPost w g gl Fd Fl n D T w') (hF : ∀ k, Fd k ∨ Fl k → B ≤ k) (hB : B ≤ w.heap.size) : JM B w' g gl n D T ∧ Below B w w' := by
  obtain ⟨Fd', Fl', h1, h2, h3, h4, h5⟩ := h
  refine ⟨⟨Fd', Fl', h1, h2, h3, fun k e => ?_⟩, keptB h4 hF hB⟩
  rcases h5 k e with e | e | e
  · exact hF k (.inl e)
  · exact hF k (.inr e)
  · omega
/-- what such a method may turn -/
def JS (B : Nat) (w0 : World) (k : Nat) : Prop := B ≤ k ∧ k < w0.heap.size

theorem New_j (w : World) (n : Nat) (h1 : 1 ≤ n) (h2 : n ≤ 65536) : Calls Try.prog 12 #[.int .i64 (n : Int)] w fun e w' => ∃ g, e = .returned (.tuple #[.pointer (some ⟨g, 0, none⟩), .int .i64 0]) ∧ DJ w.heap.size w' g n (DK.new n) ∧ Below w.heap.size w w' :=
  (New_x w n h1 h2).mono fun _ _ ⟨g, F, he, hd, hF, hb⟩ => ⟨g, he, ⟨F, hd, hF⟩, hb⟩
theorem Open_j {B : Nat} (w : World) (g n : Nat) (D : DK) (h : DJ B w g n D) (hoff : D.off = false) (hn : 4 ≤ n) (hB : B ≤ w.heap.size) :
    Calls Try.prog 13 #[.pointer (some ⟨g, 0, none⟩)] w fun e w' => ∃ gl, e = .returned (.tuple #[.pointer (some ⟨gl, 0, none⟩), .int .i64 0]) ∧ JM B w' g gl n D (openT n D.now) ∧ w.heap.size ≤ gl ∧ Below w.heap.size w w' := by
  obtain ⟨F, hd, hF⟩ := h
  refine (Open_ok w g n F D hd hoff hn).mono ?_
  rintro e w' ⟨gl, Fl, rfl, hl, hFl, hb⟩
  refine ⟨gl, rfl, ⟨F, Fl, hd.below hb, hl, fun k e1 e2 => ?_, fun k e => ?_⟩, hFl gl hl.mine, hb⟩
  · have := hd.lt k e1
    have := hFl k e2
    omega
  · rcases e with e | e
    · exact hF k e
    · have := hFl k e; omega
theorem Begin_j {B : Nat} (w0 w : World) (g gl n : Nat) (D : DK) (T : LT) (h : JM B w0 g gl n D T) (hw : Below w0.heap.size w0 w) (hB : B ≤ w0.heap.size) (v : Value) (s : List UInt8) (hsn : ∀ w', Kept (JS B w0) w w' → Bs w' v s)
    (hfr : T.from_ = 0 ∨ T.from_ = n / 2) (hgen : T.half.gen < 1099511627776) (hs : s.length ≤ 65536) (hfit : (rowsOf (T.half.gen + 1) 0 s).length ≤ n / 2) (hop : D.op.length ≤ 500000) :
    Calls Try.prog 14 #[.pointer (some ⟨gl, 0, none⟩), v] w fun e w' => e = .returned (.int .i64 (dPhases D (n / 2 - T.from_) [List.replicate (n / 2) zero64, rowsOf (T.half.gen + 1) 0 s]).1) ∧
      JM B w' g gl n (dPhases D (n / 2 - T.from_) [List.replicate (n / 2) zero64, rowsOf (T.half.gen + 1) 0 s]).2 (if (dPhases D (n / 2 - T.from_) [List.replicate (n / 2) zero64, rowsOf (T.half.gen + 1) 0 s]).1 = 0 then ⟨n / 2 - T.from_, ⟨T.half.gen + 1, s, [], (rowsOf (T.half.gen + 1) 0 s).length⟩, true⟩ else T) ∧ Below B w w' := by
  obtain ⟨Fd, Fl, h1, h2, h3, h4⟩ := h
  refine (Begin_go w gl g n Fd Fl D T (h1.below hw) (h2.below hw) h3 v s (fun w' hk => hsn w' (hk.weaken (fun k e => ⟨h4 k (.inl e), h1.lt k e⟩))) hfr hgen hs hfit hop).mono ?_
  rintro e w' ⟨he, hj⟩
  exact ⟨he, hj.jm h4 (Nat.le_trans hB hw.size)⟩
theorem Append_j {B : Nat} (w0 w : World) (g gl n : Nat) (D : DK) (T : LT) (h : JM B w0 g gl n D T) (hw : Below w0.heap.size w0 w) (hB : B ≤ w0.heap.size) (v : Value) (rs : List (List UInt8)) (hrs : ∀ w', Kept (JS B w0) w w' → Bss w' v rs)
    (hbg : T.begun = true) (hoff : D.off = false) (hfr : T.from_ ≤ n / 2) (hfi : T.half.fin ≤ n / 2) (hgen : T.half.gen ≤ 1099511627776) (hnr : T.half.recs.length ≤ 1000000) (hle : ∀ r ∈ rs, r.length ≤ 65536) (hns : rs.length ≤ 1000) (hop : D.op.length ≤ 500000) :
    Calls Try.prog 15 #[.pointer (some ⟨gl, 0, none⟩), v] w fun e w' => e = .returned (.int .i64 (appR n D T rs).1) ∧ JM B w' g gl n (appR n D T rs).2.1 (appR n D T rs).2.2 ∧ Below B w w' := by
  obtain ⟨Fd, Fl, h1, h2, h3, h4⟩ := h
  refine (Append_go w gl g n Fd Fl D T (h1.below hw) (h2.below hw) h3 v rs (fun w' hk => hrs w' (hk.weaken (fun k e => ⟨h4 k e, by rcases e with e | e; exact h1.lt k e; exact h2.lt k e⟩))) hbg hoff hfr hfi hgen hnr hle hns hop).mono ?_
  rintro e w' ⟨he, hj⟩
  exact ⟨he, hj.jm h4 (Nat.le_trans hB hw.size)⟩
theorem LSync_any (w : World) (g gl n : Nat) (Fd Fl : Nat → Prop) (D : DK) (T : LT) (hd : DX w g Fd n D) (hl : LX w gl Fl g T) (hdis : ∀ k, Fd k → ¬ Fl k) :
    Calls Try.prog 16 #[.pointer (some ⟨gl, 0, none⟩)] w fun e w' => e = .returned (.int .i64 (dSync D).1) ∧ JPost w g gl Fd Fl n (dSync D).2 T w' := by
  have HL := Lib.hid hl
  have HD := Lib.hid hd
  have HDIS := Lib.hid hdis
  obtain ⟨vsn, vrc, h1, h2, h3, h4⟩ := hl
  have hc := h1.cell (j := 0) rfl
  have hs := Sync_x w g n Fd D hd
  clear h1 h2 h3 h4 hd hdis
  go_enter Try.func16, Try.ntmps16
  go_wp2_with fail
  refine hs.mono ?_
  clear hs
  rintro e w' ⟨rfl, F', hd', hk', hf'⟩
  have HD' := Lib.hid hd'
  have HK' := Lib.hid hk'
  have HF' := Lib.hid hf'
  clear hd' hk' hf'
  go_wp2_with fail
  go_ret
  exact ⟨rfl, JPost.quit HL.out HD'.out (Below.refl _ _) HK'.out HF'.out HDIS.out⟩
theorem Sync_j {B : Nat} (w : World) (g gl n : Nat) (D : DK) (T : LT) (h : JM B w g gl n D T) (hB : B ≤ w.heap.size) :
    Calls Try.prog 16 #[.pointer (some ⟨gl, 0, none⟩)] w fun e w' => e = .returned (.int .i64 (dSync D).1) ∧ JM B w' g gl n (dSync D).2 T ∧ Below B w w' := by
  obtain ⟨Fd, Fl, h1, h2, h3, h4⟩ := h
  exact (LSync_any w g gl n Fd Fl D T h1 h2 h3).mono fun _ _ ⟨he, hj⟩ => ⟨he, hj.jm h4 hB⟩
theorem Gen_j {B : Nat} (w : World) (g gl n : Nat) (D : DK) (T : LT) (h : JM B w g gl n D T) :
    Calls Try.prog 21 #[.pointer (some ⟨gl, 0, none⟩)] w fun e w' => e = .returned (.int .i64 (T.half.gen : Int)) ∧ w = w' := by
  obtain ⟨Fd, Fl, h1, h2, h3, h4⟩ := h
  exact Gen_any w gl g Fl T h2
theorem recsM.bss {w : World} {F : Nat → Prop} {v : Value} {R : List (List UInt8)} (h : recsM w F v R) : Bss w v R := by
  obtain ⟨vs, h1, h2, h3, h4⟩ := h
  have hs := h2.rs.2
  rw [h1] at hs
  have e : flatW encS vs = vs.map SV.v := by
    clear h1 h2 h4 hs
    induction vs with
    | nil => rfl
    | cons a l ih => simp only [flatW, List.map_cons, List.flatten_cons] at ih ⊢; rw [ih]; rfl
  rw [e] at hs
  refine ⟨vs.map SV.v, by simp [h1], hs, fun i a b => ?_⟩
  have := (h4 i (by simpa using b) a).1.bs
  simpa using this
theorem Recs_j {B : Nat} (w : World) (g gl n : Nat) (D : DK) (T : LT) (h : JM B w g gl n D T) (hl : ∀ r ∈ T.half.recs, r.length ≤ 1000000) (hn : T.half.recs.length ≤ 1000000) :
    Calls Try.prog 19 #[.pointer (some ⟨gl, 0, none⟩)] w (RecsPost w T.half.recs) := by
  obtain ⟨Fd, Fl, h1, h2, h3, h4⟩ := h
  exact Recs_any w gl g Fl T h2 hl hn
theorem Snap_j {B : Nat} (w : World) (g gl n : Nat) (D : DK) (T : LT) (h : JM B w g gl n D T) (hl : T.half.snap.length ≤ 1000000) :
    Calls Try.prog 24 #[.pointer (some ⟨gl, 0, none⟩)] w (RetB 5 w T.half.snap) := by
  obtain ⟨Fd, Fl, h1, h2, h3, h4⟩ := h
  exact Snap_any w gl g Fl T h2 hl
theorem Crash_j {B : Nat} (w0 w : World) (g n : Nat) (D : DK) (h : DJ B w0 g n D) (hw : Below w0.heap.size w0 w) (hB : B ≤ w0.heap.size) (vp : Value) (picks : List Int) (hp : ∀ w', Kept (JS B w0) w w' → Is w' vp picks) :
    Calls Try.prog 26 #[.pointer (some ⟨g, 0, none⟩), vp] w fun e w' => e = .returned (.tuple #[]) ∧ DJ B w' g n (dCrash D picks) ∧ Below B w w' := by
  obtain ⟨F, h1, h2⟩ := h
  refine (Crash_x w g n F D (h1.below hw) vp picks (fun w' hk => hp w' (hk.weaken (fun k e => ⟨h2 k e, h1.lt k e⟩)))).mono ?_
  rintro e w' ⟨he, hd⟩
  exact ⟨he, hd.dj h2 (Nat.le_trans hB hw.size)⟩
theorem Start_j {B : Nat} (w : World) (g n : Nat) (D : DK) (h : DJ B w g n D) (hB : B ≤ w.heap.size) :
    Calls Try.prog 27 #[.pointer (some ⟨g, 0, none⟩)] w fun e w' => e = .returned (.tuple #[]) ∧ DJ B w' g n (dStart D) ∧ Below B w w' := by
  obtain ⟨F, h1, h2⟩ := h
  exact (Start_x w g n F D h1).mono fun _ _ ⟨he, hd⟩ => ⟨he, hd.dj h2 hB⟩
theorem Read_j {B : Nat} (w : World) (g n : Nat) (D : DK) (h : DJ B w g n D) (hoff : D.off = false) (k : Nat) (hk : k < n) (b : List UInt8) (hb : D.now[k]? = some b) :
    Calls Try.prog 17 #[.pointer (some ⟨g, 0, none⟩), .int .i64 (k : Int)] w fun e w' => e = .returned (.tuple #[.agg (bvs b).toArray, .int .i64 0]) ∧ Below w.heap.size w w' := by
  obtain ⟨F, h1, h2⟩ := h
  exact Read_xon w g n F D h1 hoff k hk b hb
end Cam
