import Derived.Test.YtdenijpdkfnjeaaPdN
/- DiskExact: the program's disk and the page's side by side. -/
namespace Cam
open Go Go.RowKit Go.Proofs

theorem WriteR_any (w : World) (g gs gn : Nat) (vo : Value) (n : Nat) (D : DK) (h : DM w g gs gn vo n D) (at_ : Int) (b : List UInt8) (hb : b.length = 64) (hf : D.op.length < 1000000) :
    Calls Try.prog 10 #[.pointer (some ⟨g, 0, none⟩), .int .i64 at_, .agg (bvs b).toArray] w fun e w' => e = .returned (.int .i64 (dWriteR n D at_ b).1) ∧ DPost w g gs gn vo n (dWriteR n D at_ b).2 w' := by
  by_cases hr : dRight n D at_ = 0
  · have hin : 0 ≤ at_ ∧ at_ < n := by
      unfold dRight at hr
      split at hr
      · cases hr
      · split at hr
        · cases hr
        · omega
    obtain ⟨k, rfl⟩ : ∃ k : Nat, at_ = (k : Int) := ⟨at_.toNat, by omega⟩
    have e : dWriteR n D (k : Int) b = dWrite D k b := by unfold dWriteR; rw [if_pos hr, Int.toNat_natCast]
    rw [e]
    exact Write_any w g gs gn vo n D h k b (by omega) hb hf
  · have e : dWriteR n D at_ b = (dRight n D at_, D) := by unfold dWriteR; rw [if_neg hr]
    rw [e]
    have hA := h.alloc (.cells (bvs b).toArray 29)
    have hri := right_any _ g gs gn vo n D hA at_
    obtain ⟨r, hr2⟩ : ∃ r, r = dRight n D at_ := ⟨_, rfl⟩
    rw [← hr2] at hri hr ⊢
    have hrn : ((r : Int) != 0) = true := by simp [hr]
    have HA := Lib.hid hA
    clear hA h e hb hf hr2 hr
    go_enter Try.func10, Try.ntmps10
    go_wp2_with fail
    refine hri.mono ?_
    rintro e w1 ⟨rfl, rfl⟩
    go_wp2_with fail
    go_ret
    exact ⟨rfl, vo, HA.out, (Kept.refl _ w).alloc _, fun j hj => .inl hj⟩
theorem New_no (w : World) (n : Int) (h : n < 1 ∨ 65536 < n) : Calls Try.prog 9 #[.int .i64 n] w fun e w' => e = .returned (.tuple #[.pointer none, .int .i64 3]) ∧ w = w' := by
  by_cases h1 : n < 1
  · go_enter Try.func9, Try.ntmps9
    go_wp2_with fail
    go_ret2
    exact ⟨rfl, rfl⟩
  · have h1' : decide (n < 1) = false := by simp; omega
    have h2 : 65536 < n := by omega
    go_enter Try.func9, Try.ntmps9
    go_wp2_with fail
    go_ret2
    exact ⟨rfl, rfl⟩

/-- the two disks, all their blocks at B or behind it -/
def E3 (B : Nat) (w : World) (g gp n : Nat) (D1 D2 : DK) : Prop := ∃ Fd gs vo, DX w g Fd n D1 ∧ PMem w gp gs vo n D2 ∧ (∀ k, Fd k → ¬ PS gp gs vo k) ∧ ∀ k, Fd k ∨ PS gp gs vo k → B ≤ k
def ES (B : Nat) (w0 : World) (k : Nat) : Prop := B ≤ k ∧ k < w0.heap.size
theorem E3.below {B : Nat} {w w' : World} {g gp n : Nat} {D1 D2 : DK} (h : E3 B w g gp n D1 D2) (hb : Below w.heap.size w w') : E3 B w' g gp n D1 D2 := by
  obtain ⟨Fd, gs, vo, h1, h2, h3, h4⟩ := h
  exact ⟨Fd, gs, vo, h1.below hb, h2.below hb, h3, h4⟩
theorem ES.below {B : Nat} {w0 w w' : World} (hk : Kept (ES B w0) w w') (hB : B ≤ w.heap.size) : Below B w w' := hk.below (fun k hk1 e => by have := e.1; omega) hB
theorem E3.stepD {B : Nat} {w0 w w' : World} {g gp gs n : Nat} {vo : Value} {Fd : Nat → Prop} {D1 D2 D' : DK} (h1 : DX w0 g Fd n D1) (h2 : PMem w0 gp gs vo n D2) (h3 : ∀ k, Fd k → ¬ PS gp gs vo k) (h4 : ∀ k, Fd k ∨ PS gp gs vo k → B ≤ k) (hw : Below w0.heap.size w0 w) (hB : B ≤ w0.heap.size)
    (h : DXPost w g Fd n D' w') : E3 B w' g gp n D' D2 ∧ Kept (ES B w0) w w' := by
  obtain ⟨F', k1, k2, k3⟩ := h
  have hs := hw.size
  refine ⟨⟨F', gs, vo, k1, (h2.below hw).kept k2 (fun k e1 e2 => h3 k e2 e1), fun k e1 e2 => ?_, fun k e => ?_⟩, k2.weaken (fun k e => ⟨h4 k (.inl e), h1.lt k e⟩)⟩
  · rcases k3 k e1 with e | e
    · exact h3 k e e2
    · have := h2.lt k e2; omega
  · rcases e with e | e
    · rcases k3 k e with e | e
      · exact h4 k (.inl e)
      · omega
    · exact h4 k (.inr e)
theorem E3.stepP {B : Nat} {w0 w w' : World} {g gp gs n : Nat} {vo : Value} {Fd : Nat → Prop} {D1 D2 D' : DK} (h1 : DX w0 g Fd n D1) (h2 : PMem w0 gp gs vo n D2) (h3 : ∀ k, Fd k → ¬ PS gp gs vo k) (h4 : ∀ k, Fd k ∨ PS gp gs vo k → B ≤ k) (hw : Below w0.heap.size w0 w) (hB : B ≤ w0.heap.size)
    (h : PPost w gp gs vo n D' w') : E3 B w' g gp n D1 D' ∧ Kept (ES B w0) w w' := by
  obtain ⟨vo', k1, k2, k3⟩ := h
  have hs := hw.size
  have hps : ∀ k, PS gp gs vo' k → PS gp gs vo k ∨ w.heap.size ≤ k := fun k e => by
    rcases e with e | e | e
    · exact .inl (.inl e)
    · exact .inl (.inr (.inl e))
    · exact (k3 k e).imp (fun e => .inr (.inr e)) id
  refine ⟨⟨Fd, gs, vo', (h1.below hw).kept k2 h3, k1, fun k e1 e2 => ?_, fun k e => ?_⟩, k2.weaken (fun k e => ⟨h4 k (.inr e), h2.lt k e⟩)⟩
  · rcases hps k e2 with e | e
    · exact h3 k e1 e
    · have := h1.lt k e1; omega
  · rcases e with e | e
    · exact h4 k (.inl e)
    · rcases hps k e with e | e
      · exact h4 k (.inr e)
      · omega
theorem dwrite_e {B : Nat} (w0 w : World) (g gp n : Nat) (D1 D2 : DK) (h : E3 B w0 g gp n D1 D2) (hw : Below w0.heap.size w0 w) (hB : B ≤ w0.heap.size) (at_ : Int) (b : List UInt8) (hb : b.length = 64) (hf : D1.op.length < 1000000) :
    Calls Try.prog 10 #[.pointer (some ⟨g, 0, none⟩), .int .i64 at_, .agg (bvs b).toArray] w fun e w' => e = .returned (.int .i64 (dWriteR n D1 at_ b).1) ∧ E3 B w' g gp n (dWriteR n D1 at_ b).2 D2 ∧ Kept (ES B w0) w w' := by
  obtain ⟨Fd, gs, vo, h1, h2, h3, h4⟩ := h
  obtain ⟨gs9, gn9, vo9, hd, hF⟩ := h1.below hw
  refine (WriteR_any w g gs9 gn9 vo9 n D1 hd at_ b hb hf).mono ?_
  rintro e w' ⟨he, hd'⟩
  exact ⟨he, E3.stepD h1 h2 h3 h4 hw hB (hd'.dx hF)⟩
theorem pwrite_e {B : Nat} (w0 w : World) (g gp n : Nat) (D1 D2 : DK) (h : E3 B w0 g gp n D1 D2) (hw : Below w0.heap.size w0 w) (hB : B ≤ w0.heap.size) (at_ : Int) (b : List UInt8) (hb : b.length = 64) (hf : D2.op.length < 1000000) :
    Calls Try.prog 33 #[.pointer (some ⟨gp, 0, none⟩), .int .i64 at_, .agg (bvs b).toArray] w fun e w' => e = .returned (.int .i64 (dWriteR n D2 at_ b).1) ∧ E3 B w' g gp n D1 (dWriteR n D2 at_ b).2 ∧ Kept (ES B w0) w w' := by
  obtain ⟨Fd, gs, vo, h1, h2, h3, h4⟩ := h
  refine (pwrite_any w gp gs vo n D2 (h2.below hw) at_ b hb hf).mono ?_
  rintro e w' ⟨he, hd'⟩
  exact ⟨he, E3.stepP h1 h2 h3 h4 hw hB hd'⟩
/-- the same, with blocks of any kind P -/
def EP (P : Nat → Prop) (w : World) (g gp n : Nat) (D1 D2 : DK) : Prop := ∃ Fd gs vo, DX w g Fd n D1 ∧ PMem w gp gs vo n D2 ∧ (∀ k, Fd k → ¬ PS gp gs vo k) ∧ ∀ k, Fd k ∨ PS gp gs vo k → P k
theorem E3.ep {B : Nat} {w : World} {g gp n gx : Nat} {D1 D2 : DK} (h : E3 B w g gp n D1 D2) (hx : gx = w.heap.size) : EP (fun k => B ≤ k ∧ k ≠ gx) w g gp n D1 D2 := by
  obtain ⟨Fd, gs, vo, h1, h2, h3, h4⟩ := h
  refine ⟨Fd, gs, vo, h1, h2, h3, fun k e => ⟨h4 k e, ?_⟩⟩
  rcases e with e | e
  · have := h1.lt k e; omega
  · have := h2.lt k e; omega
theorem EP.e3 {P : Nat → Prop} {B : Nat} {w : World} {g gp n : Nat} {D1 D2 : DK} (h : EP P w g gp n D1 D2) (hP : ∀ k, P k → B ≤ k) : E3 B w g gp n D1 D2 := by
  obtain ⟨Fd, gs, vo, h1, h2, h3, h4⟩ := h
  exact ⟨Fd, gs, vo, h1, h2, h3, fun k e => hP k (h4 k e)⟩
theorem EP.below {P : Nat → Prop} {w w' : World} {g gp n : Nat} {D1 D2 : DK} (h : EP P w g gp n D1 D2) (hb : Below w.heap.size w w') : EP P w' g gp n D1 D2 := by
  obtain ⟨Fd, gs, vo, h1, h2, h3, h4⟩ := h
  exact ⟨Fd, gs, vo, h1.below hb, h2.below hb, h3, h4⟩
theorem EP.stepD {P : Nat → Prop} {w0 w w' : World} {g gp gs n : Nat} {vo : Value} {Fd : Nat → Prop} {D1 D2 D' : DK} (h1 : DX w0 g Fd n D1) (h2 : PMem w0 gp gs vo n D2) (h3 : ∀ k, Fd k → ¬ PS gp gs vo k) (h4 : ∀ k, Fd k ∨ PS gp gs vo k → P k) (hw : Below w0.heap.size w0 w) (hB : ∀ k, w0.heap.size ≤ k → P k)
    (h : DXPost w g Fd n D' w') : EP P w' g gp n D' D2 ∧ Kept (fun k => P k ∧ k < w0.heap.size) w w' := by
  obtain ⟨F', k1, k2, k3⟩ := h
  have hs := hw.size
  refine ⟨⟨F', gs, vo, k1, (h2.below hw).kept k2 (fun k e1 e2 => h3 k e2 e1), fun k e1 e2 => ?_, fun k e => ?_⟩, k2.weaken (fun k e => ⟨h4 k (.inl e), h1.lt k e⟩)⟩
  · rcases k3 k e1 with e | e
    · exact h3 k e e2
    · have := h2.lt k e2; omega
  · rcases e with e | e
    · rcases k3 k e with e | e
      · exact h4 k (.inl e)
      · exact hB k (by omega)
    · exact h4 k (.inr e)
theorem EP.stepP {P : Nat → Prop} {w0 w w' : World} {g gp gs n : Nat} {vo : Value} {Fd : Nat → Prop} {D1 D2 D' : DK} (h1 : DX w0 g Fd n D1) (h2 : PMem w0 gp gs vo n D2) (h3 : ∀ k, Fd k → ¬ PS gp gs vo k) (h4 : ∀ k, Fd k ∨ PS gp gs vo k → P k) (hw : Below w0.heap.size w0 w) (hB : ∀ k, w0.heap.size ≤ k → P k)
    (h : PPost w gp gs vo n D' w') : EP P w' g gp n D1 D' ∧ Kept (fun k => P k ∧ k < w0.heap.size) w w' := by
  obtain ⟨vo', k1, k2, k3⟩ := h
  have hs := hw.size
  have hps : ∀ k, PS gp gs vo' k → PS gp gs vo k ∨ w.heap.size ≤ k := fun k e => by
    rcases e with e | e | e
    · exact .inl (.inl e)
    · exact .inl (.inr (.inl e))
    · exact (k3 k e).imp (fun e => .inr (.inr e)) id
  refine ⟨⟨Fd, gs, vo', (h1.below hw).kept k2 h3, k1, fun k e1 e2 => ?_, fun k e => ?_⟩, k2.weaken (fun k e => ⟨h4 k (.inr e), h2.lt k e⟩)⟩
  · rcases hps k e2 with e | e
    · exact h3 k e1 e
    · have := h1.lt k e1; omega
  · rcases e with e | e
    · exact h4 k (.inl e)
    · rcases hps k e with e | e
      · exact h4 k (.inr e)
      · exact hB k (by omega)
theorem dwrite_p {P : Nat → Prop} (w0 w : World) (g gp n : Nat) (D1 D2 : DK) (h : EP P w0 g gp n D1 D2) (hw : Below w0.heap.size w0 w) (hB : ∀ k, w0.heap.size ≤ k → P k) (at_ : Int) (b : List UInt8) (hb : b.length = 64) (hf : D1.op.length < 1000000) :
    Calls Try.prog 10 #[.pointer (some ⟨g, 0, none⟩), .int .i64 at_, .agg (bvs b).toArray] w fun e w' => e = .returned (.int .i64 (dWriteR n D1 at_ b).1) ∧ EP P w' g gp n (dWriteR n D1 at_ b).2 D2 ∧ Kept (fun k => P k ∧ k < w0.heap.size) w w' := by
  obtain ⟨Fd, gs, vo, h1, h2, h3, h4⟩ := h
  obtain ⟨gs9, gn9, vo9, hd, hF⟩ := h1.below hw
  refine (WriteR_any w g gs9 gn9 vo9 n D1 hd at_ b hb hf).mono ?_
  rintro e w' ⟨he, hd'⟩
  exact ⟨he, EP.stepD h1 h2 h3 h4 hw hB (hd'.dx hF)⟩
theorem pwrite_p {P : Nat → Prop} (w0 w : World) (g gp n : Nat) (D1 D2 : DK) (h : EP P w0 g gp n D1 D2) (hw : Below w0.heap.size w0 w) (hB : ∀ k, w0.heap.size ≤ k → P k) (at_ : Int) (b : List UInt8) (hb : b.length = 64) (hf : D2.op.length < 1000000) :
    Calls Try.prog 33 #[.pointer (some ⟨gp, 0, none⟩), .int .i64 at_, .agg (bvs b).toArray] w fun e w' => e = .returned (.int .i64 (dWriteR n D2 at_ b).1) ∧ EP P w' g gp n D1 (dWriteR n D2 at_ b).2 ∧ Kept (fun k => P k ∧ k < w0.heap.size) w w' := by
  obtain ⟨Fd, gs, vo, h1, h2, h3, h4⟩ := h
  refine (pwrite_any w gp gs vo n D2 (h2.below hw) at_ b hb hf).mono ?_
  rintro e w' ⟨he, hd'⟩
  exact ⟨he, EP.stepP h1 h2 h3 h4 hw hB hd'⟩
theorem dsync_e {B : Nat} (w0 w : World) (g gp n : Nat) (D1 D2 : DK) (h : E3 B w0 g gp n D1 D2) (hw : Below w0.heap.size w0 w) (hB : B ≤ w0.heap.size) :
    Calls Try.prog 12 #[.pointer (some ⟨g, 0, none⟩)] w fun e w' => e = .returned (.int .i64 (dSync D1).1) ∧ E3 B w' g gp n (dSync D1).2 D2 ∧ Kept (ES B w0) w w' := by
  obtain ⟨Fd, gs, vo, h1, h2, h3, h4⟩ := h
  refine (Sync_x w g n Fd D1 (h1.below hw)).mono ?_
  rintro e w' ⟨he, hd'⟩
  exact ⟨he, E3.stepD h1 h2 h3 h4 hw hB hd'⟩
theorem psync_e {B : Nat} (w0 w : World) (g gp n : Nat) (D1 D2 : DK) (h : E3 B w0 g gp n D1 D2) (hw : Below w0.heap.size w0 w) (hB : B ≤ w0.heap.size) :
    Calls Try.prog 28 #[.pointer (some ⟨gp, 0, none⟩)] w fun e w' => e = .returned (.int .i64 (dSync D2).1) ∧ E3 B w' g gp n D1 (dSync D2).2 ∧ Kept (ES B w0) w w' := by
  obtain ⟨Fd, gs, vo, h1, h2, h3, h4⟩ := h
  refine (psync_any w gp gs vo n D2 (h2.below hw)).mono ?_
  rintro e w' ⟨he, hd'⟩
  exact ⟨he, E3.stepP h1 h2 h3 h4 hw hB hd'⟩
theorem darm_e {B : Nat} (w0 w : World) (g gp n : Nat) (D1 D2 : DK) (h : E3 B w0 g gp n D1 D2) (hw : Below w0.heap.size w0 w) (hB : B ≤ w0.heap.size) (m : Int) (hm : m ≤ 9223372036854775807) :
    Calls Try.prog 19 #[.pointer (some ⟨g, 0, none⟩), .int .i64 m] w fun e w' => e = .returned (.tuple #[]) ∧ E3 B w' g gp n (dArm D1 m) D2 ∧ Kept (ES B w0) w w' := by
  obtain ⟨Fd, gs, vo, h1, h2, h3, h4⟩ := h
  refine (Arm_x w g n Fd D1 (h1.below hw) m hm).mono ?_
  rintro e w' ⟨he, hd'⟩
  exact ⟨he, E3.stepD h1 h2 h3 h4 hw hB hd'⟩
theorem parm_e {B : Nat} (w0 w : World) (g gp n : Nat) (D1 D2 : DK) (h : E3 B w0 g gp n D1 D2) (hw : Below w0.heap.size w0 w) (hB : B ≤ w0.heap.size) (m : Int) (hm : m ≤ 9223372036854775807) :
    Calls Try.prog 29 #[.pointer (some ⟨gp, 0, none⟩), .int .i64 m] w fun e w' => e = .returned (.tuple #[]) ∧ E3 B w' g gp n D1 (dArm D2 m) ∧ Kept (ES B w0) w w' := by
  obtain ⟨Fd, gs, vo, h1, h2, h3, h4⟩ := h
  refine (parm_any w gp gs vo n D2 (h2.below hw) m hm).mono ?_
  rintro e w' ⟨he, hd', hk⟩
  exact ⟨he, E3.stepP h1 h2 h3 h4 hw hB ⟨vo, hd', hk.weaken (fun _ e => .inl e), fun _ e => .inl e⟩⟩
theorem dcrash_e {B : Nat} (w0 w : World) (g gp n : Nat) (D1 D2 : DK) (h : E3 B w0 g gp n D1 D2) (hw : Below w0.heap.size w0 w) (hB : B ≤ w0.heap.size) (vp : Value) (picks : List Int) (hp : ∀ w', Kept (ES B w0) w w' → Is w' vp picks) :
    Calls Try.prog 13 #[.pointer (some ⟨g, 0, none⟩), vp] w fun e w' => e = .returned (.tuple #[]) ∧ E3 B w' g gp n (dCrash D1 picks) D2 ∧ Kept (ES B w0) w w' := by
  obtain ⟨Fd, gs, vo, h1, h2, h3, h4⟩ := h
  refine (Crash_x w g n Fd D1 (h1.below hw) vp picks (fun w' hk => hp w' (hk.weaken (fun k e => ⟨h4 k (.inl e), h1.lt k e⟩)))).mono ?_
  rintro e w' ⟨he, hd'⟩
  exact ⟨he, E3.stepD h1 h2 h3 h4 hw hB hd'⟩
theorem pcrash_e {B : Nat} (w0 w : World) (g gp n : Nat) (D1 D2 : DK) (h : E3 B w0 g gp n D1 D2) (hw : Below w0.heap.size w0 w) (hB : B ≤ w0.heap.size) (vp : Value) (picks : List Int) (hp : ∀ w', Kept (ES B w0) w w' → Is w' vp picks) :
    Calls Try.prog 30 #[.pointer (some ⟨gp, 0, none⟩), vp] w fun e w' => e = .returned (.tuple #[]) ∧ E3 B w' g gp n D1 (dCrash D2 picks) ∧ Kept (ES B w0) w w' := by
  obtain ⟨Fd, gs, vo, h1, h2, h3, h4⟩ := h
  refine (pcrash_any w gp gs vo n D2 (h2.below hw) vp picks (fun w' hk => hp w' (hk.weaken (fun k e => ⟨h4 k (.inr e), h2.lt k e⟩)))).mono ?_
  rintro e w' ⟨he, hd'⟩
  exact ⟨he, E3.stepP h1 h2 h3 h4 hw hB hd'⟩
theorem dstart_e {B : Nat} (w0 w : World) (g gp n : Nat) (D1 D2 : DK) (h : E3 B w0 g gp n D1 D2) (hw : Below w0.heap.size w0 w) (hB : B ≤ w0.heap.size) :
    Calls Try.prog 14 #[.pointer (some ⟨g, 0, none⟩)] w fun e w' => e = .returned (.tuple #[]) ∧ E3 B w' g gp n (dStart D1) D2 ∧ Kept (ES B w0) w w' := by
  obtain ⟨Fd, gs, vo, h1, h2, h3, h4⟩ := h
  refine (Start_x w g n Fd D1 (h1.below hw)).mono ?_
  rintro e w' ⟨he, hd'⟩
  exact ⟨he, E3.stepD h1 h2 h3 h4 hw hB hd'⟩
theorem pstart_e {B : Nat} (w0 w : World) (g gp n : Nat) (D1 D2 : DK) (h : E3 B w0 g gp n D1 D2) (hw : Below w0.heap.size w0 w) (hB : B ≤ w0.heap.size) (hto : D2.torn = true → D2.off = true) :
    Calls Try.prog 31 #[.pointer (some ⟨gp, 0, none⟩)] w fun e w' => e = .returned (.tuple #[]) ∧ E3 B w' g gp n D1 (dStart D2) ∧ Kept (ES B w0) w w' := by
  obtain ⟨Fd, gs, vo, h1, h2, h3, h4⟩ := h
  refine (pstart_any w gp gs vo n D2 (h2.below hw) hto).mono ?_
  rintro e w' ⟨he, hd'⟩
  exact ⟨he, E3.stepP h1 h2 h3 h4 hw hB hd'⟩
/-- what is read -/
def rdB (n : Nat) (D : DK) (at_ : Int) : List UInt8 := if dRight n D at_ = 0 then D.now.getD at_.toNat [] else zero64
theorem rdB_of {n : Nat} {D : DK} {at_ : Int} {b : List UInt8} (h1 : dRight n D at_ = 0 → D.now[at_.toNat]? = some b) (h2 : dRight n D at_ ≠ 0 → b = zero64) : b = rdB n D at_ := by
  unfold rdB
  by_cases h : dRight n D at_ = 0
  · rw [if_pos h, List.getD_eq_getElem?_getD, h1 h]; rfl
  · rw [if_neg h]; exact h2 h
theorem rdB_64 {n : Nat} {D : DK} (h : DOk n D) (at_ : Int) : (rdB n D at_).length = 64 := by
  unfold rdB
  by_cases hr : dRight n D at_ = 0
  · rw [if_pos hr]
    have hin : at_.toNat < D.now.length := by
      unfold dRight at hr
      split at hr
      · cases hr
      · split at hr
        · cases hr
        · rw [h.now.1]; omega
    rw [List.getD_eq_getElem?_getD, List.getElem?_eq_getElem hin]
    exact h.now.2 _ (List.getElem_mem hin)
  · rw [if_neg hr]; exact zero64_length
theorem dread_e {B : Nat} (w : World) (g gp n : Nat) (D1 D2 : DK) (h : E3 B w g gp n D1 D2) (at_ : Int) :
    Calls Try.prog 15 #[.pointer (some ⟨g, 0, none⟩), .int .i64 at_] w fun e w' => e = .returned (.tuple #[.agg (bvs (rdB n D1 at_)).toArray, .int .i64 (dRight n D1 at_)]) ∧ Below w.heap.size w w' := by
  obtain ⟨Fd, gs, vo, h1, h2, h3, h4⟩ := h
  refine (Read_x w g n Fd D1 h1 at_).mono ?_
  rintro e w' ⟨⟨b, he, k1, k2⟩, hb⟩
  exact ⟨by rw [he, rdB_of k1 k2], hb⟩
theorem pread_e {B : Nat} (w : World) (g gp n : Nat) (D1 D2 : DK) (h : E3 B w g gp n D1 D2) (hfull : D2.now = sets D2.syn D2.op) (at_ : Int) :
    Calls Try.prog 25 #[.pointer (some ⟨gp, 0, none⟩), .int .i64 at_] w fun e w' => e = .returned (.tuple #[.agg (bvs (rdB n D2 at_)).toArray, .int .i64 (dRight n D2 at_)]) ∧ Below w.heap.size w w' := by
  obtain ⟨Fd, gs, vo, h1, h2, h3, h4⟩ := h
  refine (pread_any w gp gs vo n D2 h2 hfull at_).mono ?_
  rintro e w' ⟨⟨b, he, k1, k2⟩, hb⟩
  exact ⟨by rw [he, rdB_of k1 k2], hb⟩
theorem E3.okD {B : Nat} {w : World} {g gp n : Nat} {D1 D2 : DK} (h : E3 B w g gp n D1 D2) : DOk n D1 ∧ DOk n D2 := by
  obtain ⟨Fd, gs, vo, h1, h2, h3, h4⟩ := h
  exact ⟨h1.ok, h2.ok⟩
end Cam
