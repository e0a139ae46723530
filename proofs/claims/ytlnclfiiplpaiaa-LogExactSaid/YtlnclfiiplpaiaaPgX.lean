import Derived.Test.YtlnclfiiplpaiaaPgO
/- the page's disk by one predicate with its blocks; its log's Open so. -/
namespace Cam
open Go Go.RowKit Go.Proofs
def PX (w : World) (g : Nat) (F : Nat → Prop) (n : Nat) (D : DK) : Prop := ∃ gs vo, PMem w g gs vo n D ∧ ∀ k, F k ↔ PS g gs vo k
theorem PX.lt {w : World} {g n : Nat} {F : Nat → Prop} {D : DK} (h : PX w g F n D) (k : Nat) (hk : F k) : k < w.heap.size := by
 obtain ⟨gs, vo, h1, h2⟩ := h
 exact h1.lt k ((h2 k).1 hk)
theorem PX.kept {S : Nat → Prop} {w w' : World} {g n : Nat} {F : Nat → Prop} {D : DK} (h : PX w g F n D) (hk : Kept S w w') (hS : ∀ k, F k → ¬ S k) : PX w' g F n D := by
 obtain ⟨gs, vo, h1, h2⟩ := h
 exact ⟨gs, vo, h1.kept hk (fun k e => hS k ((h2 k).2 e)), h2⟩
theorem PX.below {w w' : World} {g n : Nat} {F : Nat → Prop} {D : DK} (h : PX w g F n D) (hb : Below w.heap.size w w') : PX w' g F n D := h.kept (Kept.of_below hb) (fun _ _ e => e)
theorem PX.ok {w : World} {g n : Nat} {F : Nat → Prop} {D : DK} (h : PX w g F n D) : DOk n D := by
 obtain ⟨gs, vo, h1, h2⟩ := h
 exact h1.ok
theorem PX.cell0 {w : World} {g n : Nat} {F : Nat → Prop} {D : DK} (h : PX w g F n D) : w.cell? ⟨g, 0, none⟩ = some (.int .i64 (n : Int)) := by
 obtain ⟨gs, vo, h1, h2⟩ := h
 exact h1.cells.1
theorem PX.cell3 {w : World} {g n : Nat} {F : Nat → Prop} {D : DK} (h : PX w g F n D) : w.cell? ⟨g, 3, none⟩ = some (.bool D.off) := by
 obtain ⟨gs, vo, h1, h2⟩ := h
 exact h1.cells.2.2.2.1
theorem PX.mine {w : World} {g n : Nat} {F : Nat → Prop} {D : DK} (h : PX w g F n D) : F g := by
 obtain ⟨gs, vo, h1, h2⟩ := h
 exact (h2 g).2 (.inl rfl)
def PXPost (w : World) (g : Nat) (F : Nat → Prop) (n : Nat) (D : DK) (w' : World) : Prop := ∃ F', PX w' g F' n D ∧ Kept F w w' ∧ ∀ k, F' k → F k ∨ w.heap.size ≤ k
theorem PPost.px {w w' : World} {g gs n : Nat} {vo : Value} {F : Nat → Prop} {D : DK} (h : PPost w g gs vo n D w') (hF : ∀ k, F k ↔ PS g gs vo k) : PXPost w g F n D w' := by
 obtain ⟨vo', h1, h2, h3⟩ := h
 refine ⟨PS g gs vo', ⟨gs, vo', h1, fun _ => Iff.rfl⟩, h2.weaken (fun k e => (hF k).2 e), fun k e => ?_⟩
 rcases e with e | e | e
 ·
  exact .inl ((hF k).2 (.inl e))
 ·
  exact .inl ((hF k).2 (.inr (.inl e)))
 ·
  exact (h3 k e).imp (fun e => (hF k).2 (.inr (.inr e))) id
theorem dWriteR_in {n : Nat} {D : DK} {k : Nat} (hk : k < n) (b : List UInt8) : dWriteR n D (k : Int) b = dWrite D k b := by
 unfold dWriteR
 by_cases ho : D.off = true
 ·
  have h7 : dRight n D (k : Int) = 7 := by unfold dRight; rw [if_pos ho]
  rw [h7, if_neg (by decide)]
  unfold dWrite
  rw [if_pos ho]
 ·
  have h0 : dRight n D (k : Int) = 0 := by unfold dRight; rw [if_neg ho, if_neg (by omega)]
  rw [h0, if_pos rfl, Int.toNat_natCast]
theorem PWrite_x (w : World) (g n : Nat) (F : Nat → Prop) (D : DK) (h : PX w g F n D) (k : Nat) (hk : k < n) (b : List UInt8) (hb : b.length = 64) (hf : D.op.length < 1000000) :
  Calls Try.prog 55 #[.pointer (some ⟨g, 0, none⟩), .int .i64 (k : Int), .agg (bvs b).toArray] w fun e w' => e = .returned (.int .i64 (dWrite D k b).1) ∧ PXPost w g F n (dWrite D k b).2 w' := by
 obtain ⟨gs, vo, h1, h2⟩ := h
 refine (pwrite_any w g gs vo n D h1 (k : Int) b hb hf).mono ?_
 rintro e w' ⟨he, hp⟩
 rw [dWriteR_in hk] at he hp
 exact ⟨he, hp.px h2⟩
theorem PSync_x (w : World) (g n : Nat) (F : Nat → Prop) (D : DK) (h : PX w g F n D) :
  Calls Try.prog 50 #[.pointer (some ⟨g, 0, none⟩)] w fun e w' => e = .returned (.int .i64 (dSync D).1) ∧ PXPost w g F n (dSync D).2 w' := by
 obtain ⟨gs, vo, h1, h2⟩ := h
 exact (psync_any w g gs vo n D h1).mono fun _ _ ⟨he, hp⟩ => ⟨he, hp.px h2⟩
theorem PCrash_x (w : World) (g n : Nat) (F : Nat → Prop) (D : DK) (h : PX w g F n D) (vp : Value) (picks : List Int) (hp : ∀ w', Kept F w w' → Is w' vp picks) :
  Calls Try.prog 35 #[.pointer (some ⟨g, 0, none⟩), vp] w fun e w' => e = .returned (.tuple #[]) ∧ PXPost w g F n (dCrash D picks) w' := by
 obtain ⟨gs, vo, h1, h2⟩ := h
 exact (pcrash_any w g gs vo n D h1 vp picks (fun w' hk => hp w' (hk.weaken (fun k e => (h2 k).2 e)))).mono fun _ _ ⟨he, hp⟩ => ⟨he, hp.px h2⟩
theorem PStart_x (w : World) (g n : Nat) (F : Nat → Prop) (D : DK) (h : PX w g F n D) (hto : D.torn = true → D.off = true) :
  Calls Try.prog 36 #[.pointer (some ⟨g, 0, none⟩)] w fun e w' => e = .returned (.tuple #[]) ∧ PXPost w g F n (dStart D) w' := by
 obtain ⟨gs, vo, h1, h2⟩ := h
 exact (pstart_any w g gs vo n D h1 hto).mono fun _ _ ⟨he, hp⟩ => ⟨he, hp.px h2⟩
theorem PArm_x (w : World) (g n : Nat) (F : Nat → Prop) (D : DK) (h : PX w g F n D) (m : Int) (hm : m ≤ 9223372036854775807) :
  Calls Try.prog 53 #[.pointer (some ⟨g, 0, none⟩), .int .i64 m] w fun e w' => e = .returned (.tuple #[]) ∧ PXPost w g F n (dArm D m) w' := by
 obtain ⟨gs, vo, h1, h2⟩ := h
 exact (parm_any w g gs vo n D h1 m hm).mono fun _ _ ⟨he, hp, hk⟩ => ⟨he, F, ⟨gs, vo, hp, h2⟩, hk.weaken (fun k e => (h2 k).2 (.inl e)), fun _ e => .inl e⟩
theorem PNew_x (w : World) (n : Nat) (h1 : 1 ≤ n) (h2 : n ≤ 65536) : Calls Try.prog 32 #[.int .i64 (n : Int)] w fun e w' => ∃ g F, e = .returned (.pointer (some ⟨g, 0, none⟩)) ∧ PX w' g F n (DK.new n) ∧ (∀ k, F k → w.heap.size ≤ k) ∧ Below w.heap.size w w' :=
 (pnew_any w n h1 h2).mono fun _ _ ⟨g, gs, he, hp, hg, hs, hb⟩ => ⟨g, PS g gs (.slice none 0 0), he, ⟨gs, _, hp, fun _ => Iff.rfl⟩, (fun k e => by
  rcases e with rfl | rfl | e
  ·
   exact hg
  ·
   exact hs
  ·
   cases e), hb⟩
theorem POpen_ok (w : World) (g n : Nat) (F : Nat → Prop) (D : DK) (h : PX w g F n D) (hfull : D.now = sets D.syn D.op) (hoff : D.off = false) (hn : 4 ≤ n) :
  Calls Try.prog 49 #[.pointer (some ⟨g, 0, none⟩)] w fun e w' => ∃ gl hf F, e = .returned (.tuple #[.pointer (some ⟨gl, 0, none⟩), .int .i64 0]) ∧ PLX w' gl hf F g (openT n D.now) ∧ (openT n D.now).from_ = hf * (n / 2) ∧ hf ≤ 1 ∧ (∀ k, F k → w.heap.size ≤ k) ∧ Below w.heap.size w w' := by
 obtain ⟨gs, vo, h1, h2⟩ := h
 exact popen_ok w g gs vo n D h1 hfull hoff hn
theorem POpen_off (w : World) (g n : Nat) (F : Nat → Prop) (D : DK) (h : PX w g F n D) (hoff : D.off = true) :
  Calls Try.prog 49 #[.pointer (some ⟨g, 0, none⟩)] w fun e w' => e = .returned (.tuple #[.pointer none, .int .i64 7]) ∧ w = w' := by
 obtain ⟨gs, vo, h1, h2⟩ := h
 exact popen_off w g gs vo n D h1 hoff
theorem POpen_few (w : World) (g n : Nat) (F : Nat → Prop) (D : DK) (h : PX w g F n D) (hoff : D.off = false) (hn : n < 4) :
  Calls Try.prog 49 #[.pointer (some ⟨g, 0, none⟩)] w fun e w' => e = .returned (.tuple #[.pointer none, .int .i64 3]) ∧ w = w' := by
 obtain ⟨gs, vo, h1, h2⟩ := h
 exact popen_few w g gs vo n D h1 hoff hn
theorem PRoom_x (w : World) (g n : Nat) (F : Nat → Prop) (D : DK) (h : PX w g F n D) (gl hf : Nat) (Fl : Nat → Prop) (T : LT) (hl : PLX w gl hf Fl g T) :
  Calls Try.prog 66 #[.pointer (some ⟨gl, 0, none⟩)] w fun e w' => e = .returned (.int .i64 ((n / 2 : Nat) : Int)) ∧ w = w' := by
 obtain ⟨gs, vo, h1, h2⟩ := h
 exact proom_any w g gs vo n D h1 gl hf Fl T hl
theorem PXPost.next {w w1 w2 : World} {g n : Nat} {F F1 : Nat → Prop} {D : DK} (hk : Kept F w w1) (hf : ∀ k, F1 k → F k ∨ w.heap.size ≤ k) (h : PXPost w1 g F1 n D w2) : PXPost w g F n D w2 := by
 obtain ⟨F2, h1, h2, h3⟩ := h
 refine ⟨F2, h1, hk.trans h2 (fun i hi e => (hf i e).elim id (fun e => by omega)), fun k e => ?_⟩
 rcases h3 k e with e | e
 ·
  exact hf k e
 ·
  have := hk.size; exact .inr (by omega)
end Cam
