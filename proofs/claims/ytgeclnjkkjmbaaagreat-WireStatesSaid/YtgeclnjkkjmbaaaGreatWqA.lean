import Derived.Test.YtgeclnjkkjmbaaaGreatWsIz
import Derived.Test.YtgeclnjkkjmbaaaGreatWtF
/- The page's readers of rows: what a loop leaves to the next one; six numbers. -/
namespace Cam
open Go Go.RowKit Go.Proofs
set_option linter.unusedVariables false
set_option linter.unusedSimpArgs false
set_option maxHeartbeats 200000
theorem stage_next {α : Type} {enc : α → List Value} {K : Nat} {TE : TypeId} {w wc : World} {g ga gb : Nat} {B : List UInt8} {v : Value} {t : RS} {M : World → Prop} {TX : TypeId} {C : List Value} {V : Value} {D : List α}
  (hq : QM w g B v t (fun x => M x ∧ HT x ga TX C ∧ OwnR enc K TE x gb V D) wc) (HFM : Firm (fun k => k = g ∨ k = ga ∨ gb ≤ k) M) (HB : ∀ x, M x → gb ≤ x.heap.size) (hne : g < ga ∧ w.heap.size ≤ ga ∧ ga < gb) :
  ∃ (M' : World → Prop) (gb' : Nat), Firm (fun k => k = g ∨ k = ga ∨ gb' ≤ k) M' ∧ (∀ x, M' x → gb' ≤ x.heap.size) ∧ (∀ x, M' x → M x ∧ OwnR enc K TE x gb V D) ∧ QM w g B v t (fun x => M' x ∧ HT x ga TX C) wc ∧ (g < ga ∧ w.heap.size ≤ ga ∧ ga < gb') ∧ gb ≤ gb' := by
 have hlt := OwnR.lt hq.2.2.2
 have hge := OwnR.ge hq.2.2.2
 have hb := HB _ hq.2.1
 refine ⟨fun x => (M x ∧ OwnR enc K TE x gb V D) ∧ wc.heap.size ≤ x.heap.size, wc.heap.size, ?_, fun x h => h.2, fun x h => h.1, ⟨hq.1, ⟨⟨hq.2.1, hq.2.2.2⟩, Nat.le_refl _⟩, hq.2.2.1⟩, ⟨hne.1, hne.2.1, by omega⟩, hb⟩
 exact Firm.and (Firm.and (Firm.mono HFM (fun k h => by rcases h with h | h | h; exact .inl h; exact .inr (.inl h); exact .inr (.inr (by omega)))) (Firm.own' (fun k hk e => by have h1 := hlt k hk; have h2 := hge k hk; omega))) Firm.size
theorem QPost.rebase {tq : TypeId} {W w : World} {g : Nat} {B : List UInt8} {v : Value} {s : RS} (h : QPost tq W g B v s w) : QPost tq w g B v s w := by
 obtain ⟨m, h1, h2, _⟩ := h
 exact ⟨m, h1, h2, Kept.refl _ _⟩
theorem QPost.since {tq : TypeId} {W w w' : World} {g : Nat} {B : List UInt8} {v : Value} {s s' : RS} (h : QPost tq W g B v s w) (k : QPost tq w g B v s' w') : QPost tq W g B v s' w' ∧ Kept (fun k => k = g) w w' := by
 obtain ⟨_, _, _, h3⟩ := h
 obtain ⟨m, h1, h2, h4⟩ := k
 exact ⟨⟨m, h1, h2, h3.trans h4 (fun _ _ h => h)⟩, h4⟩
theorem qshifts_any {W w : World} {g : Nat} {B : List UInt8} {v : Value} {s : RS} {M : World → Prop} (hf : Firm (fun k => k = g) M) (h : QM W g B v s M w) (hlen : B.length ≤ 70368744177664) :
  Calls Tryz.prog 96 #[.pointer (some ⟨g, 0, none⟩)] w fun e w' => e = .returned (.agg (ivs (rIs 6 s).1).toArray) ∧ QM W g B v (rIs 6 s).2 M w' := by
 refine (rshifts_any w g B v s h.1.rebase hlen).mono ?_
 rintro e w' ⟨he, hq⟩
 obtain ⟨h1, h2⟩ := h.1.since hq
 exact ⟨he, h1, hf _ _ h.2 h2⟩
end Cam
