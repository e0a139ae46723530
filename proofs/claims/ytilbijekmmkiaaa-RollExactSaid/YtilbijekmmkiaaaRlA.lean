import Derived.Test.YtilbijekmmkiaaaRowI
import Derived.Test.YtilbijekmmkiaaaProg
import Derived.Test.YtilbijekmmkiaaaNumP
/- A roll: its rows, and what the page says of it. -/
namespace Cam
open Go Go.RowKit Go.Proofs
structure MbT where
 no : Int
 state : Int
 need : Int
deriving DecidableEq
def MbT.ints (c : MbT) : List Int := [c.no, c.state, c.need]
def MbT.vs (c : MbT) : List Value := [.int .i64 c.no, .int .i64 c.state, .int .i64 c.need]
theorem MbT.len (c : MbT) : c.vs.length = 3 := rfl
theorem MbT.one (c : MbT) : ∀ u ∈ c.vs, u.oneCell' = true := by
 intro u hu
 simp only [MbT.vs, List.mem_cons, List.not_mem_nil, or_false] at hu
 rcases hu with rfl | rfl | rfl <;> rfl
theorem elem_mem : Elem Try.prog 22 33 3 24 := Elem.mk' (z := .agg #[.int .i64 0, .int .i64 0, .int .i64 0]) Try.underlying22 (by kernel_rfl) rfl (by decide)
theorem mem_sz : (Try.prog.info? 33).map (·.size) = some 3 := by kernel_rfl
structure InT where
 no : Int
 cur : Int
 mult : Int
 add : Int
 set : Int
 price : Int
 h0 : Int
 h1 : Int
 h2 : Int
 h3 : Int
 h4 : Int
 h5 : Int
deriving DecidableEq
def InT.ints (c : InT) : List Int := [c.no, c.cur, c.mult, c.add, c.set, c.price, c.h0, c.h1, c.h2, c.h3, c.h4, c.h5]
def InT.vs (c : InT) : List Value := [.int .i64 c.no, .int .i64 c.cur, .int .i64 c.mult, .int .i64 c.add, .int .i64 c.set, .int .i64 c.price, .int .i64 c.h0, .int .i64 c.h1, .int .i64 c.h2, .int .i64 c.h3, .int .i64 c.h4, .int .i64 c.h5]
theorem InT.len (c : InT) : c.vs.length = 12 := rfl
theorem InT.one (c : InT) : ∀ u ∈ c.vs, u.oneCell' = true := by
 intro u hu
 simp only [InT.vs, List.mem_cons, List.not_mem_nil, or_false] at hu
 rcases hu with rfl | rfl | rfl | rfl | rfl | rfl | rfl | rfl | rfl | rfl | rfl | rfl <;> rfl
theorem elem_ins : Elem Try.prog 23 38 12 96 := Elem.mk' (z := .agg #[.int .i64 0, .int .i64 0, .int .i64 0, .int .i64 0, .int .i64 0, .int .i64 0, .int .i64 0, .int .i64 0, .int .i64 0, .int .i64 0, .int .i64 0, .int .i64 0]) Try.underlying23 (by kernel_rfl) rfl (by decide)
theorem ins_sz : (Try.prog.info? 38).map (·.size) = some 12 := by kernel_rfl
structure AsT where
 no : Int
 cur : Int
 price : Int
 cut : Int
deriving DecidableEq
def AsT.ints (c : AsT) : List Int := [c.no, c.cur, c.price, c.cut]
def AsT.vs (c : AsT) : List Value := [.int .i64 c.no, .int .i64 c.cur, .int .i64 c.price, .int .i64 c.cut]
theorem AsT.len (c : AsT) : c.vs.length = 4 := rfl
theorem AsT.one (c : AsT) : ∀ u ∈ c.vs, u.oneCell' = true := by
 intro u hu
 simp only [AsT.vs, List.mem_cons, List.not_mem_nil, or_false] at hu
 rcases hu with rfl | rfl | rfl | rfl <;> rfl
theorem elem_ass : Elem Try.prog 24 42 4 32 := Elem.mk' (z := .agg #[.int .i64 0, .int .i64 0, .int .i64 0, .int .i64 0]) Try.underlying24 (by kernel_rfl) rfl (by decide)
theorem ass_sz : (Try.prog.info? 42).map (·.size) = some 4 := by kernel_rfl
structure RollT where
 M : List MbT
 I : List InT
 A : List AsT
def RollT.nil : RollT := ⟨[], [], []⟩
section
variable {α : Type}
def ChkP (right : α → Bool) (no : α → Int) (L : List α) : Prop := ∀ k (h : k < L.length), right L[k] = true ∧ ∀ (_ : 0 < k), no (L[k - 1]'(by omega)) < no L[k]
noncomputable def chkB (right : α → Bool) (no : α → Int) (L : List α) : Bool := @decide (ChkP right no L) (Classical.propDecidable _)
theorem chkB_true {right : α → Bool} {no : α → Int} {L : List α} : chkB right no L = true ↔ ChkP right no L := @decide_eq_true_iff _ (Classical.propDecidable _)
theorem chk_no1 {right : α → Bool} {no : α → Int} {L : List α} {k : Nat} (h : k < L.length) (hr : right L[k] = false) : chkB right no L = false := by
 rw [← Bool.not_eq_true, chkB_true]
 intro hc
 rw [(hc k h).1] at hr
 cases hr
theorem chk_no2 {right : α → Bool} {no : α → Int} {L : List α} {k : Nat} (h : k < L.length) (h0 : 0 < k) (hr : no L[k] ≤ no (L[k - 1]'(by omega))) : chkB right no L = false := by
 rw [← Bool.not_eq_true, chkB_true]
 intro hc
 have := (hc k h).2 h0
 omega
def ChkTo (right : α → Bool) (no : α → Int) (L : List α) (n : Nat) : Prop := ∀ k (h : k < L.length), k < n → right L[k] = true ∧ ∀ (_ : 0 < k), no (L[k - 1]'(by omega)) < no L[k]
theorem ChkTo.zero (right : α → Bool) (no : α → Int) (L : List α) : ChkTo right no L 0 := fun k h hk => absurd hk (by omega)
theorem ChkTo.next {right : α → Bool} {no : α → Int} {L : List α} {n : Nat} (h : ChkTo right no L n) (hn : n < L.length) (h1 : right L[n] = true) (h2 : ∀ (_ : 0 < n), no (L[n - 1]'(by omega)) < no L[n]) : ChkTo right no L (n + 1) := fun k hk hkn => by
 by_cases e : k = n
 ·
  subst e
  exact ⟨h1, h2⟩
 ·
  exact h k hk (by omega)
theorem ChkTo.all {right : α → Bool} {no : α → Int} {L : List α} {n : Nat} (h : ChkTo right no L n) (hn : L.length ≤ n) : chkB right no L = true := chkB_true.2 (fun k hk => h k hk (by omega))
theorem ChkP.lt {right : α → Bool} {no : α → Int} {L : List α} (h : ChkP right no L) : ∀ (d i : Nat) (hi : i + d + 1 < L.length), no (L[i]'(by omega)) < no L[i + d + 1]
 | 0, i, hi => (h (i + 1) hi).2 (by omega)
 | d + 1, i, hi => Int.lt_trans (ChkP.lt h d i (by omega)) ((h (i + (d + 1) + 1) hi).2 (by omega))
theorem ChkP.mono {right : α → Bool} {no : α → Int} {L : List α} (h : ChkP right no L) {i j : Nat} (hij : i < j) (hj : j < L.length) : no (L[i]'(by omega)) < no L[j] := by
 have := h.lt (j - i - 1) i (by omega)
 simpa [show i + (j - i - 1) + 1 = j by omega] using this
def fdI (no : α → Int) (n : Int) (L : List α) : Int := match L.findIdx? (fun x => decide (no x = n)) with
 | some i => (i : Int)
 | none => -1
def fdX (no : α → Int) (z : α) (n : Int) (L : List α) : α := match L.findIdx? (fun x => decide (no x = n)) with
 | some i => (L[i]?).getD z
 | none => z
def hasB (no : α → Int) (n : Int) (L : List α) : Bool := decide (0 ≤ fdI no n L)
def NotTo (no : α → Int) (n : Int) (L : List α) (k : Nat) : Prop := ∀ q (h : q < L.length), q < k → no L[q] ≠ n
theorem NotTo.zero (no : α → Int) (n : Int) (L : List α) : NotTo no n L 0 := fun q h hq => absurd hq (by omega)
theorem NotTo.next {no : α → Int} {n : Int} {L : List α} {k : Nat} (h : NotTo no n L k) (hk : k < L.length) (e : no L[k] ≠ n) : NotTo no n L (k + 1) := fun q hq hqk => by
 by_cases e2 : q = k
 ·
  subst e2
  exact e
 ·
  exact h q hq (by omega)
theorem fd_hit {no : α → Int} {n : Int} {L : List α} {k : Nat} (z : α) (h : NotTo no n L k) (hk : k < L.length) (e : no L[k] = n) : fdI no n L = k ∧ fdX no z n L = L[k] ∧ hasB no n L = true := by
 have : L.findIdx? (fun x => decide (no x = n)) = some k := by
  rw [List.findIdx?_eq_some_iff_getElem]
  exact ⟨hk, by simpa using e, fun j hj => by simpa using h j (by omega) hj⟩
 unfold hasB fdI fdX
 rw [this]
 simp [hk]
theorem fd_miss {no : α → Int} {n : Int} {L : List α} {k : Nat} (z : α) (h : NotTo no n L k) (hk : L.length ≤ k) : fdI no n L = -1 ∧ fdX no z n L = z ∧ hasB no n L = false := by
 have : L.findIdx? (fun x => decide (no x = n)) = none := by
  rw [List.findIdx?_eq_none_iff]
  intro x hx
  obtain ⟨i, hi, rfl⟩ := List.getElem_of_mem hx
  simpa using h i hi (by omega)
 unfold hasB fdI fdX
 rw [this]
 simp
theorem has_cases (no : α → Int) (z : α) (n : Int) (L : List α) : (∃ k, ∃ h : k < L.length, no L[k] = n ∧ NotTo no n L k ∧ fdI no n L = k ∧ fdX no z n L = L[k] ∧ hasB no n L = true) ∨ (NotTo no n L L.length ∧ fdI no n L = -1 ∧ fdX no z n L = z ∧ hasB no n L = false) := by
 cases hf : L.findIdx? (fun x => decide (no x = n)) with
 | some i =>
  rw [List.findIdx?_eq_some_iff_getElem] at hf
  obtain ⟨hi, he, hj⟩ := hf
  have e : no L[i] = n := by simpa using he
  have hN : NotTo no n L i := fun q hq hqi => by simpa using hj q hqi
  exact .inl ⟨i, hi, e, hN, fd_hit z hN hi e⟩
 | none =>
  rw [List.findIdx?_eq_none_iff] at hf
  have hN : NotTo no n L L.length := fun q hq _ => by simpa using hf L[q] (List.getElem_mem hq)
  exact .inr ⟨hN, fd_miss z hN (Nat.le_refl _)⟩
def atL (no : α → Int) (n : Int) : List α → Nat
 | [] => 0
 | x :: L => if no x < n then atL no n L + 1 else 0
theorem atL_is {no : α → Int} {n : Int} : ∀ {L : List α} {k : Nat} (_ : k ≤ L.length) (_ : ∀ q (h : q < L.length), q < k → no L[q] < n) (_ : ∀ h : k < L.length, n ≤ no L[k]), atL no n L = k
 | [], k, hk, _, _ => by simp at hk; subst hk; rfl
 | x :: L, 0, _, _, h2 => by
  have := h2 (by simp)
  simp at this
  unfold atL
  rw [if_neg (by omega)]
 | x :: L, k + 1, hk, h1, h2 => by
  have h0 := h1 0 (by simp) (by omega)
  simp at h0
  unfold atL
  rw [if_pos h0, atL_is (k := k) (by simpa using hk) (fun q hq hqk => h1 (q + 1) (by simpa using hq) (by omega)) (fun h => h2 (by simpa using h))]
def putL (no : α → Int) (x : α) (L : List α) : List α := if ∃ h : atL no (no x) L < L.length, no L[atL no (no x) L] = no x then L.set (atL no (no x) L) x else L.take (atL no (no x) L) ++ x :: L.drop (atL no (no x) L)
theorem putL_set {no : α → Int} {x : α} {L : List α} {k : Nat} (hk : k < L.length) (h1 : ∀ q (h : q < L.length), q < k → no L[q] < no x) (h2 : no L[k] = no x) : putL no x L = L.set k x := by
 have e : atL no (no x) L = k := atL_is (by omega) h1 (fun _ => by omega)
 unfold putL
 rw [if_pos (by rw [e]; exact ⟨hk, h2⟩), e]
theorem putL_ins {no : α → Int} {x : α} {L : List α} {k : Nat} (hk : k ≤ L.length) (h1 : ∀ q (h : q < L.length), q < k → no L[q] < no x) (h2 : ∀ h : k < L.length, no x < no L[k]) : putL no x L = L.take k ++ x :: L.drop k := by
 have e : atL no (no x) L = k := atL_is hk h1 (fun h => by have := h2 h; omega)
 unfold putL
 rw [if_neg (by rw [e]; rintro ⟨h, h3⟩; have := h2 h; omega), e]
end
def wB (n lo hi : Int) : Bool := decide (lo ≤ n ∧ n ≤ hi)
def rightM (m : MbT) : Bool := wB m.no 1 16 && wB m.state 1 3 && wB m.need 0 4611686018427387904
def shB (s : Int) : Bool := wB s (-1073741824) 1073741824
def rightI (i : InT) : Bool := shB i.h0 && shB i.h1 && shB i.h2 && shB i.h3 && shB i.h4 && shB i.h5 && wB i.no 1 8 && wB i.cur 0 2 && wB i.mult 1 1024 && wB i.add 0 1073741824 && wB i.set 0 1073741824 && wB i.price 0 1073741824
def rightA (a : AsT) : Bool := wB a.no 1 6 && wB a.cur 0 2 && wB a.price 1 1073741824 && wB a.cut 0 10000
noncomputable def chkR (R : RollT) : Bool := chkB rightM MbT.no R.M && chkB rightI InT.no R.I && chkB rightA AsT.no R.A
def mZ : MbT := ⟨0, 0, 0⟩
def iZ : InT := ⟨0, 0, 0, 0, 0, 0, 0, 0, 0, 0, 0, 0⟩
def aZ : AsT := ⟨0, 0, 0, 0⟩
noncomputable def admitR (R : RollT) (who need : Int) : Int × RollT :=
 if chkR R = false then (14, .nil) else if rightM ⟨who, 1, need⟩ = false then (3, .nil) else if hasB MbT.no who R.M = true then (11, .nil) else (0, { R with M := putL MbT.no ⟨who, 1, need⟩ R.M })
noncomputable def listR (R : RollT) (i : InT) : Int × RollT :=
 if chkR R = false then (14, .nil) else if rightI { i with set := 0, price := 0 } = false then (3, .nil) else if hasB InT.no i.no R.I = true then (11, .nil) else (0, { R with I := putL InT.no { i with set := 0, price := 0 } R.I })
noncomputable def holdR (R : RollT) (a : AsT) : Int × RollT :=
 if chkR R = false then (14, .nil) else if rightA a = false ∨ (hasB AsT.no a.no R.A = true ∧ (fdX AsT.no aZ a.no R.A).cur ≠ a.cur) then (3, .nil) else (0, { R with A := putL AsT.no a R.A })
noncomputable def tellR (R : RollT) (no price : Int) : Int × RollT :=
 if chkR R = false then (14, .nil) else if hasB InT.no no R.I = false then (10, .nil) else if wB price 1 1073741824 = false then (3, .nil) else (0, { R with I := putL InT.no { fdX InT.no iZ no R.I with set := price } R.I })
noncomputable def stateR (R : RollT) (who st : Int) : Int × RollT :=
 if chkR R = false then (14, .nil) else if hasB MbT.no who R.M = false then (10, .nil) else if wB st 1 3 = false then (3, .nil) else (0, { R with M := putL MbT.no { fdX MbT.no mZ who R.M with state := st } R.M })
end Cam
