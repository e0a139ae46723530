/- Numbers as bytes, the highest first. No program in sight. -/
namespace Cam
theorem take_snoc {α : Type} (l : List α) (k : Nat) (h : k < l.length) : l.take (k + 1) = l.take k ++ [l[k]] := by
 rw [List.take_succ_eq_append_getElem h]
end Cam
