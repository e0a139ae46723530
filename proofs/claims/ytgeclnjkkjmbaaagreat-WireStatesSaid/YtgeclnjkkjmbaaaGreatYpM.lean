import Derived.Test.YtgeclnjkkjmbaaaGreatYpLz
/- The page's readers: from one loop to the next. -/
namespace Cam
open Go Go.RowKit Go.Proofs
set_option linter.unusedVariables false
set_option linter.unusedSimpArgs false
set_option maxHeartbeats 200000
theorem stage_nx {α : Type} {enc : α → List Value} {K F : Nat} {TE : TypeId} {w x : World} {g ga gb : Nat} {B : List UInt8} {v u : Value} {t : RS} {M : World → Prop} {TX : TypeId} {C : List Value} {D : List α}
  (hq : QM w g B v t (LB M ga TX C F u enc K TE gb u D) x) (hf : Firm (fun k => k = g ∨ k = ga ∨ gb ≤ k) M) (hB : ∀ x, M x → gb ≤ x.heap.size) (hne : g < ga ∧ w.heap.size ≤ ga ∧ ga < gb) :
  ∃ (M' : World → Prop) (gb' : Nat), Hid (Firm (fun k => k = g ∨ k = ga ∨ gb' ≤ k) M') ∧ Hid (∀ x, M' x → gb' ≤ x.heap.size) ∧ Hid (∀ x, M' x → M x ∧ OwnR enc K TE x gb u D) ∧ Hid (QM w g B v t (fun x => M' x ∧ HT x ga TX (C.set F u)) x) ∧ Hid (g < ga ∧ w.heap.size ≤ ga ∧ ga < gb') ∧ Hid (gb ≤ gb') := by
 obtain ⟨M', gb', h1, h2, h3, h4, h5, h6⟩ := stage_next hq hf hB hne
 exact ⟨M', gb', h1, h2, h3, h4, h5, h6⟩
end Cam
