import Derived.Test.YtlnclfiiplpaiaaJnW
import Derived.Test.YtlnclfiiplpaiaaDkBaz
import Derived.Test.YtlnclfiiplpaiaaProg
/- Several small texts in one: JnV, JnX, Mk, JnL1, JnF2, JnL2. No condition. -/
namespace Cam
open Go Go.RowKit Go.Proofs
def JF (F : Nat → Prop) (w : World) (g gl n : Nat) (D : DK) (T : LT) : Prop := ∃ Fd Fl, DX w g Fd n D ∧ LX w gl Fl g T ∧ (∀ k, Fd k → ¬ Fl k) ∧ ∀ k, F k ↔ Fd k ∨ Fl k
theorem JF.lt {F : Nat → Prop} {w : World} {g gl n : Nat} {D : DK} {T : LT} (h : JF F w g gl n D T) (k : Nat) (hk : F k) : k < w.heap.size := by
 obtain ⟨Fd, Fl, h1, h2, h3, h4⟩ := h
 rcases (h4 k).1 hk with e | e
 ·
  exact h1.lt k e
 ·
  exact h2.lt k e
theorem JF.kept {F S : Nat → Prop} {w w' : World} {g gl n : Nat} {D : DK} {T : LT} (h : JF F w g gl n D T) (hk : Kept S w w') (hS : ∀ k, F k → ¬ S k) : JF F w' g gl n D T := by
 obtain ⟨Fd, Fl, h1, h2, h3, h4⟩ := h
 exact ⟨Fd, Fl, h1.kept hk (fun k e => hS k ((h4 k).2 (.inl e))), h2.kept hk (fun k e => hS k ((h4 k).2 (.inr e))), h3, h4⟩
theorem JF.below {F : Nat → Prop} {w w' : World} {g gl n : Nat} {D : DK} {T : LT} (h : JF F w g gl n D T) (hb : Below w.heap.size w w') : JF F w' g gl n D T := h.kept (Kept.of_below hb) (fun _ _ e => e)
theorem JM.jf {B : Nat} {w : World} {g gl n : Nat} {D : DK} {T : LT} (h : JM B w g gl n D T) : ∃ F, JF F w g gl n D T ∧ ∀ k, F k → B ≤ k := by
 obtain ⟨Fd, Fl, h1, h2, h3, h4⟩ := h
 exact ⟨fun k => Fd k ∨ Fl k, ⟨Fd, Fl, h1, h2, h3, fun _ => Iff.rfl⟩, h4⟩
theorem JF.jm {B : Nat} {F : Nat → Prop} {w : World} {g gl n : Nat} {D : DK} {T : LT} (h : JF F w g gl n D T) (hB : ∀ k, F k → B ≤ k) : JM B w g gl n D T := by
 obtain ⟨Fd, Fl, h1, h2, h3, h4⟩ := h
 exact ⟨Fd, Fl, h1, h2, h3, fun k e => hB k ((h4 k).2 e)⟩
theorem JF.jm0 {F : Nat → Prop} {w : World} {g gl n : Nat} {D : DK} {T : LT} (h : JF F w g gl n D T) : JM 0 w g gl n D T := h.jm (fun _ _ => Nat.zero_le _)
def JFP (F : Nat → Prop) (w : World) (g gl n : Nat) (D : DK) (T : LT) (w' : World) : Prop := ∃ F', JF F' w' g gl n D T ∧ Kept F w w' ∧ ∀ k, F' k → F k ∨ w.heap.size ≤ k
theorem JPost.jf {F Fd Fl : Nat → Prop} {w w' : World} {g gl n : Nat} {D : DK} {T : LT} (h : JPost w g gl Fd Fl n D T w') (hF : ∀ k, F k ↔ Fd k ∨ Fl k) : JFP F w g gl n D T w' := by
 obtain ⟨Fd', Fl', h1, h2, h3, h4, h5⟩ := h
 refine ⟨fun k => Fd' k ∨ Fl' k, ⟨Fd', Fl', h1, h2, h3, fun _ => Iff.rfl⟩, h4.weaken (fun k e => (hF k).2 e), fun k e => ?_⟩
 rcases h5 k e with e | e | e
 ·
  exact .inl ((hF k).2 (.inl e))
 ·
  exact .inl ((hF k).2 (.inr e))
 ·
  exact .inr e
theorem JFP.apart {F S : Nat → Prop} {w w' : World} {F' : Nat → Prop} (hF : ∀ k, F' k → F k ∨ w.heap.size ≤ k) (hd : ∀ k, F k → ¬ S k) (hS : ∀ k, S k → k < w.heap.size) (_ : Kept F w w') : ∀ k, F' k → ¬ S k := fun k h1 h2 => by
 rcases hF k h1 with e | e
 ·
  exact hd k e h2
 ·
  have := hS k h2; omega
end Cam
namespace Cam
open Go Go.RowKit Go.Proofs
def Stay (F : Nat → Prop) (w : World) (P : World → Prop) : Prop := ∀ w', Kept F w w' → P w'
theorem Stay.here {F : Nat → Prop} {w : World} {P : World → Prop} (h : Stay F w P) : P w := h w (Kept.refl _ _)
theorem Stay.next {F F' : Nat → Prop} {w w1 : World} {P : World → Prop} (h : Stay F w P) (hk : Kept F w w1) (hf : ∀ q, F' q → F q ∨ w.heap.size ≤ q) : Stay F' w1 P := fun w' hk' => h w' (hk.trans hk' (fun i hi e => (hf i e).resolve_right (by omega)))
theorem Stay.below {F : Nat → Prop} {w w1 : World} {P : World → Prop} (h : Stay F w P) (hb : Below w.heap.size w w1) : Stay F w1 P := h.next ((Kept.of_below hb).weaken (fun _ e => e.elim)) (fun _ e => .inl e)
theorem Stay.alloc {F : Nat → Prop} {w : World} {P : World → Prop} (h : Stay F w P) (o : Obj) : Stay F (w.alloc o) P := h.below ((Below.refl _ _).alloc (Nat.le_refl _) o)
theorem Stay.imp {F : Nat → Prop} {w : World} {P Q : World → Prop} (h : Stay F w P) (hi : ∀ x, P x → Q x) : Stay F w Q := fun x hk => hi x (h x hk)
theorem Stay.more {F F' : Nat → Prop} {w w1 : World} {P : World → Prop} (h : Stay F w P) (hb : Below w.heap.size w w1) (hf : ∀ q, F' q → F q ∨ w.heap.size ≤ q) : Stay F' w1 P := h.next ((Kept.of_below hb).weaken (fun _ e => e.elim)) hf
theorem Stay.rows {F : Nat → Prop} {B : Nat} {W w : World} {v : Value} {l : List (List UInt8)} (h : Bss W v l) (hb : Below B W w) (hF : ∀ q, F q → B ≤ q) (hB : B ≤ w.heap.size) (hW : B = W.heap.size) : Stay F w (fun w' => Bss w' v l) := fun w' hk => by
 subst hW
 exact h.mono (hb.trans (keptB hk hF hB))
theorem Stay.own {F : Nat → Prop} {t : TypeId} {w : World} {base : Nat} {v : Value} {l : List UInt8} (h : OwnB t w base v l) (hF : ∀ q, v.ownBlock = some q → ¬ F q) : Stay F w (fun w' => Bs w' v l) := fun _ hk => (h.keptJ hk hF).bs
theorem JF.dx {F : Nat → Prop} {w : World} {g gl n : Nat} {D : DK} {T : LT} (h : JF F w g gl n D T) : ∃ Fd, DX w g Fd n D ∧ ∀ q, Fd q → F q := by
 obtain ⟨Fd, Fl, h1, h2, h3, h4⟩ := h
 exact ⟨Fd, h1, fun q e => (h4 q).2 (.inl e)⟩
theorem JF.ok {F : Nat → Prop} {w : World} {g gl n : Nat} {D : DK} {T : LT} (h : JF F w g gl n D T) : DOk n D := h.jm0.disk.ok
theorem openT_half (n : Nat) (N : List (List UInt8)) : ((openT n N).from_ = 0 ∨ (openT n N).from_ = n / 2) ∧ (openT n N).half = readL (halfOf N (openT n N).from_ (n / 2)) ∧ (openT n N).begun = false := by
 rw [openT_is (n := n) (N := N) rfl rfl]
 split
 ·
  exact ⟨.inl rfl, rfl, rfl⟩
 ·
  exact ⟨.inr rfl, rfl, rfl⟩
end Cam
namespace Cam
open Go Go.RowKit Go.Proofs
end Cam
namespace Cam
open Go Go.RowKit Go.Proofs
theorem Bss.lit {w0 w : World} {B : Nat} {a : Option Addr} {n c : Nat} {l : List UInt8} (h : OwnB 5 w w0.heap.size (.slice a n c) l) (hsz : w0.heap.size ≤ w.heap.size) : ∀ w', Kept (JS B w0) (w.alloc (.cells #[.slice a n c] 22)) w' → Bss w' (.slice (some ⟨w.heap.size, 0, none⟩) 1 1) [l] := by
 intro w' hk
 have h1 := (hk.block w.heap.size (by simp) (fun e => by
  have := e.2
  omega)).trans (heap_new (w := w) rfl)
 refine Bss.mk1 h1 ?_
 have hb : Bs (w.alloc (.cells #[.slice a n c] 22)) (.slice a n c) l := h.bs.alloc _
 refine hb.kept1 hk (fun hne k hi hs => ?_)
 obtain ⟨g9, c9, e9, _, _, hge, _⟩ := h.form (by cases l; exact absurd rfl hne; simp)
 rw [e9] at hi
 have := inBlock_slice hi
 have := hs.2
 omega
end Cam
namespace Cam
open Go Go.RowKit Go.Proofs
end Cam
namespace Cam
open Go Go.RowKit Go.Proofs
end Cam
