import Derived.Test.YtlnclfiiplpaiaaJnV
/- ch. 07: what a journal's blocks leave as it is; what Open finds, generation by generation. No walk. -/
namespace Cam
open Go Go.RowKit Go.Proofs

/-- holds here, and wherever only the blocks F, or new ones, were turned -/
def Stay (F : Nat → Prop) (w : World) (P : World → Prop) : Prop := ∀ w', Kept F w w' → P w'
theorem Stay.here {F : Nat → Prop} {w : World} {P : World → Prop} (h : Stay F w P) : P w := h w (Kept.refl _ _)
theorem Stay.next {F F' : Nat → Prop} {w w1 : World} {P : World → Prop} (h : Stay F w P) (hk : Kept F w w1) (hf : ∀ q, F' q → F q ∨ w.heap.size ≤ q) : Stay F' w1 P := fun w' hk' => h w' (hk.trans hk' (fun i hi e => (hf i e).resolve_right (by omega)))
theorem Stay.below {F : Nat → Prop} {w w1 : World} {P : World → Prop} (h : Stay F w P) (hb : Below w.heap.size w w1) : Stay F w1 P := h.next ((Kept.of_below hb).weaken (fun _ e => e.elim)) (fun _ e => .inl e)
theorem Stay.alloc {F : Nat → Prop} {w : World} {P : World → Prop} (h : Stay F w P) (o : Obj) : Stay F (w.alloc o) P := h.below ((Below.refl _ _).alloc (Nat.le_refl _) o)
theorem Stay.fewer {F F' : Nat → Prop} {w : World} {P : World → Prop} (h : Stay F w P) (hf : ∀ q, F' q → F q) : Stay F' w P := fun x hk => h x (hk.weaken hf)
theorem Stay.imp {F : Nat → Prop} {w : World} {P Q : World → Prop} (h : Stay F w P) (hi : ∀ x, P x → Q x) : Stay F w Q := fun x hk => hi x (h x hk)
/-- blocks that came behind a world may be turned, too -/
theorem Stay.more {F F' : Nat → Prop} {w w1 : World} {P : World → Prop} (h : Stay F w P) (hb : Below w.heap.size w w1) (hf : ∀ q, F' q → F q ∨ w.heap.size ≤ q) : Stay F' w1 P := h.next ((Kept.of_below hb).weaken (fun _ e => e.elim)) hf
theorem Stay.arg {F : Nat → Prop} {B : Nat} {W w : World} {v : Value} {l : List UInt8} (h : Bs W v l) (hb : Below B W w) (hF : ∀ q, F q → B ≤ q) (hB : B ≤ w.heap.size) (hW : B = W.heap.size) : Stay F w (fun w' => Bs w' v l) := fun w' hk => by
  subst hW
  exact h.mono (hb.trans (keptB hk hF hB))
theorem Stay.rows {F : Nat → Prop} {B : Nat} {W w : World} {v : Value} {l : List (List UInt8)} (h : Bss W v l) (hb : Below B W w) (hF : ∀ q, F q → B ≤ q) (hB : B ≤ w.heap.size) (hW : B = W.heap.size) : Stay F w (fun w' => Bss w' v l) := fun w' hk => by
  subst hW
  exact h.mono (hb.trans (keptB hk hF hB))
theorem Stay.own {F : Nat → Prop} {t : TypeId} {w : World} {base : Nat} {v : Value} {l : List UInt8} (h : OwnB t w base v l) (hF : ∀ q, v.ownBlock = some q → ¬ F q) : Stay F w (fun w' => Bs w' v l) := fun _ hk => (h.keptJ hk hF).bs
theorem JF.dx {F : Nat → Prop} {w : World} {g gl n : Nat} {D : DK} {T : LT} (h : JF F w g gl n D T) : ∃ Fd, DX w g Fd n D ∧ ∀ q, Fd q → F q := by
  obtain ⟨Fd, Fl, h1, h2, h3, h4⟩ := h
  exact ⟨Fd, h1, fun q e => (h4 q).2 (.inl e)⟩
theorem JF.ok {F : Nat → Prop} {w : World} {g gl n : Nat} {D : DK} {T : LT} (h : JF F w g gl n D T) : DOk n D := h.jm0.disk.ok

theorem openT_half (n : Nat) (N : List (List UInt8)) : ((openT n N).from_ = 0 ∨ (openT n N).from_ = n / 2) ∧ (openT n N).half = readL (halfOf N (openT n N).from_ (n / 2)) ∧ (openT n N).begun = false := by
  rw [openT_is (n := n) (N := N) rfl rfl]
  split
  · exact ⟨.inl rfl, rfl, rfl⟩
  · exact ⟨.inr rfl, rfl, rfl⟩
/-- the next generation in the other half is the one that Open finds -/
theorem openT_next {n fr g : Nat} {N N' : List (List UInt8)} {s : List UInt8} {rs : List (List UInt8)} (hfr : fr = 0 ∨ fr = n / 2) (hold : halfOf N' fr (n / 2) = halfOf N fr (n / 2)) (hg : (readL (halfOf N fr (n / 2))).gen = g) (hH : Holds N' (n / 2 - fr) (n / 2) (g + 1) s rs)
    (hg2 : g + 1 ≤ 1099511627776) (hs : s.length ≤ 65536) (hr : ∀ r ∈ rs, r.length ≤ 65536) (hn : rs.length < 2147483647) :
    openT n N' = ⟨n / 2 - fr, ⟨g + 1, s, rs, (rowsOf (g + 1) 0 s).length + (recRows (g + 1) 1 rs).length⟩, false⟩ := by
  have h1 := hH.read (by omega) hg2 hs hr hn
  rw [← hold] at hg
  rcases hfr with rfl | rfl
  · rw [Nat.sub_zero] at h1
    rw [openT_is rfl h1, Nat.sub_zero, if_neg (by simp only [hg]; omega)]
  · rw [Nat.sub_self] at h1
    rw [openT_is h1 rfl, Nat.sub_self, if_pos (by simp only [hg]; omega)]
/-- behind Begin -/
theorem openT_begin {n fr g : Nat} {N : List (List UInt8)} {s : List UInt8} (hN : N.length = n) (hfr : fr = 0 ∨ fr = n / 2) (hfit : (rowsOf (g + 1) 0 s).length ≤ n / 2) :
    halfOf (puts (puts N (n / 2 - fr) (List.replicate (n / 2) zero64)) (n / 2 - fr) (rowsOf (g + 1) 0 s)) fr (n / 2) = halfOf N fr (n / 2) ∧
    Holds (puts (puts N (n / 2 - fr) (List.replicate (n / 2) zero64)) (n / 2 - fr) (rowsOf (g + 1) 0 s)) (n / 2 - fr) (n / 2) (g + 1) s [] := by
  refine ⟨?_, begin_holds (by omega) hfit⟩
  rw [puts_other (by rw [puts_length]; omega) (by omega), puts_other (by rw [List.length_replicate]; omega) (by rw [List.length_replicate]; omega)]
end Cam
