import Derived.Test.YtilbijekmmkiaaaRlP
import Derived.Test.YtilbijekmmkiaaaRlY
/- acts leave rolls right. -/
namespace Cam
open Go

theorem doR_ans {R : RollT} (h : chkR R = true) (c : AcT) : Ans R (doR R c) := by
  unfold doR
  by_cases c0 : ck6 c.dv = 0
  · rw [if_pos c0]; exact admitR_ans h _ _
  · rw [if_neg c0]
    by_cases c1 : ck6 c.dv = 1
    · rw [if_pos c1]; exact listR_ans h _
    · rw [if_neg c1]
      by_cases c2 : ck6 c.dv = 2
      · rw [if_pos c2]; exact holdR_ans h _
      · rw [if_neg c2]
        by_cases c3 : ck6 c.dv = 3
        · rw [if_pos c3]; exact tellR_ans h _ _
        · rw [if_neg c3]
          by_cases c4 : ck6 c.dv = 4
          · rw [if_pos c4]
            exact .inl ⟨rfl, turnR_ok h, Nat.le_refl _, by show R.I.length ≤ (R.I.map turn1).length; simp, Nat.le_refl _⟩
          · rw [if_neg c4]; exact stateR_ans h _ _

end Cam
