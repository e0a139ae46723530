import Derived.Test.YtdenijpdkfnjeaaDkLr
/- cambistlaw06: DiskMixes, plain laws. -/
namespace Cam
open Go Go.RowKit Go.Proofs

theorem mixB_mem {n : Nat} {old new : List UInt8} {c : UInt8} (h : c ∈ mixB n old new) : c ∈ old ∨ c ∈ new := by
  rcases List.mem_append.1 h with h | h
  · exact .inr (List.mem_of_mem_take h)
  · exact .inl (List.mem_of_mem_drop h)
theorem crashTo_len (op : List (Nat × List UInt8)) (picks : List Int) (s : List (List UInt8)) : ∀ k, (crashTo op picks s k).length = s.length
  | 0 => rfl
  | k + 1 => by
    rw [crashTo]
    cases op[k]? with
    | none => exact crashTo_len op picks s k
    | some x =>
      simp only [List.length_set]
      exact crashTo_len op picks s k
/-- whatever holds of the synced bytes and of all that is written holds behind a crash -/
theorem crashTo_all {P : UInt8 → Prop} {op : List (Nat × List UInt8)} (picks : List Int) {s : List (List UInt8)} (hs : ∀ c ∈ s.getD 0 [], P c) (ho : ∀ x ∈ op, ∀ c ∈ x.2, P c) : ∀ k, ∀ c ∈ (crashTo op picks s k).getD 0 [], P c
  | 0 => hs
  | k + 1 => by
    intro c hc
    have ih := crashTo_all picks hs ho k
    rw [crashTo] at hc
    cases hx : op[k]? with
    | none =>
      rw [hx] at hc
      exact ih c hc
    | some x =>
      rw [hx] at hc
      simp only at hc
      by_cases h0 : x.1 = 0
      · rw [h0] at hc
        by_cases hl : 0 < (crashTo op picks s k).length
        · simp only [List.getD, List.getElem?_set_self hl, Option.getD_some] at hc
          rcases mixB_mem hc with h | h
          · exact ih c h
          · exact ho x (List.mem_of_getElem? hx) c h
        · have e : crashTo op picks s k = [] := List.length_eq_zero_iff.1 (by omega)
          rw [e] at hc
          simp at hc
      · simp only [List.getD] at hc
        rw [List.getElem?_set_ne h0] at hc
        exact ih c hc
theorem mixB_none (old new : List UInt8) : mixB 0 old new = old := by simp [mixB]
theorem mixB_whole {old new : List UInt8} (h1 : old.length = 64) (h2 : new.length = 64) : mixB 64 old new = new := by
  unfold mixB
  rw [List.take_of_length_le (by omega), List.drop_of_length_le (by omega), List.append_nil]

end Cam
