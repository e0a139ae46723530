import Derived.Test.YtlnclfiiplpaiaaJnL1
/- cambistlaw07.few; a crash with nothing open. -/
namespace Cam
open Go Go.RowKit Go.Proofs

def fewR (ls : List (List UInt8)) : Prop := ls.length ≤ 20 ∧ ∀ r ∈ ls, r.length ≤ 300
def FewPost (w : World) (ls : List (List UInt8)) (e : Ending) (w' : World) : Prop := ∃ b : Bool, e = .returned (.bool b) ∧ (b = true → fewR ls) ∧ w = w'
set_option maxHeartbeats 800000 in
theorem few_any (w : World) (v : Value) (ls : List (List UInt8)) (h : Bss w v ls) : Calls Try.prog 11 #[v] w (FewPost w ls) := by
  obtain ⟨a, c, rfl, hc, hm⟩ := h.len
  obtain ⟨N, hN⟩ : ∃ z, z = ls.length := ⟨_, rfl⟩
  rw [← hN] at h hc ⊢
  have HN := Lib.hid hN
  have H := Lib.hid h
  clear hN h
  by_cases h20 : (20 : Int) < N
  · go_enter Try.func11, Try.ntmps11
    go_wp2_with fail
    go_ret
    exact ⟨false, rfl, fun e => (by cases e), rfl⟩
  · have h20' : decide (20 < N) = false := by simp; omega
    go_enter Try.func11, Try.ntmps11
    go_wp2_with fail
    go_loop [3] (fun i => ∃ k : Nat, k ≤ N ∧ i = .int .i64 k ∧ Hid (∀ i (hi : i < ls.length), i < k → ls[i].length ≤ 300)) (fun i => N - (intOf i).toNat)
    case atStart => exact ⟨0, Nat.zero_le _, rfl, fun i hi hk => absurd hk (Nat.not_lt_zero _)⟩
    case round =>
      obtain ⟨k, hk, rfl, HAL⟩ := hrel
      by_cases hlt : k < N
      · have hkl : k < ls.length := by have := HN.out; omega
        obtain ⟨b, off, rfl, hx⟩ := Bss.at1 H.out (by omega)
        obtain ⟨⟨s1, s2, s3⟩, hs, hbs⟩ := hx k hkl
        obtain ⟨a9, c9, e9, _⟩ := hbs.shape
        have hs2 : s2 = ls[k].length := by
          have h9 : Value.slice s1 s2 s3 = Value.slice a9 ls[k].length c9 := e9
          simp only [Value.slice.injEq] at h9
          exact h9.2.1
        have hcell : w.cell? ⟨b, off + k, none⟩ = some (.slice s1 s2 s3) := hs
        have HS2 := Lib.hid hs2
        have hk0 : (0 : Int) ≤ k ∧ (k : Int) < N := by omega
        clear hx hs hbs e9 hs2
        by_cases h3 : 300 < s2
        · have h3' : decide ((300 : Int) < (s2 : Int)) = true := by simp; omega
          go_wp2_with fail
          go_ret
          exact ⟨false, rfl, fun e => (by cases e), rfl⟩
        · have h3' : decide (300 < s2) = false := by simp; omega
          go_wp2_with fail
          exact ⟨⟨k + 1, by omega, by push_cast; rfl, fun i hi hik => by
            by_cases e : i = k
            · subst e
              rw [← HS2.out]; omega
            · exact HAL.out i hi (by omega)⟩, by simp [intOf]; omega⟩
      · obtain rfl : k = N := by omega
        go_wp2_with fail
        go_ret
        refine ⟨true, rfl, fun _ => ⟨by have := HN.out; omega, fun r hr => ?_⟩, rfl⟩
        obtain ⟨i, hi, rfl⟩ := List.getElem_of_mem hr
        exact HAL.out i hi (by have := HN.out; omega)

theorem crash_nothing {D : DK} (h : OnD D) (ho : D.op = []) (picks : List Int) : OnD (dStart (dCrash D picks)) ∧ (dStart (dCrash D picks)).now = D.now ∧ (dStart (dCrash D picks)).op = [] := by
  have hs : D.syn = D.now := by rw [h.full, ho]; rfl
  have e : dCrash D picks = { syn := D.syn, now := D.syn, op := [], off := true, arm := 0, torn := false } := by
    unfold dCrash
    rw [ho]
    rfl
  have e2 : dStart (dCrash D picks) = { syn := D.syn, now := D.syn, op := [], off := false, arm := 0, torn := false } := by
    rw [e]
    unfold dStart
    rw [if_neg (by simp)]
  rw [e2]
  exact ⟨⟨rfl, rfl, rfl, rfl⟩, hs, rfl⟩
end Cam
