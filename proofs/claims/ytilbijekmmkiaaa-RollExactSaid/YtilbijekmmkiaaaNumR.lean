import Derived.Test.YtilbijekmmkiaaaProg
import Derived.Test.YtilbijekmmkiaaaMem
import Derived.Test.YtilbijekmmkiaaaBe
import Derived.Test.YtilbijekmmkiaaaNumP
/- num.Right. -/
namespace Cam
open Go Go.RowKit Go.Proofs
set_option maxHeartbeats 400000 in
theorem Right_any (w : World) (v : Value) (l : List Int) (h : Is w v l) :
  Calls Try.prog 66 #[v] w fun e w' => e = .returned (.bool (allRight l)) ∧ w = w' := by
 obtain ⟨a, cap, rfl, hcap, hm⟩ := h.shape
 go_enter Try.func66, Try.ntmps66
 go_wp2
 go_loop [7] (fun i => ∃ k : Nat, k ≤ l.length ∧ i = .int .i64 k ∧ Hid (allRight (l.take k) = true)) (fun i => l.length - (intOf i).toNat)
 case atStart => exact ⟨0, Nat.zero_le _, rfl, rfl⟩
 case round =>
  obtain ⟨k, hk, rfl, Hall⟩ := hrel
  by_cases hlt : k < l.length
  ·
   obtain ⟨b, off, rfl, _, hc⟩ := h.at (by omega)
   have hck := hc k hlt
   clear hc
   obtain ⟨n, hn⟩ : ∃ n, n = l[k] := ⟨_, rfl⟩
   rw [← hn] at hck
   have Hn := Lib.hid hn
   clear hn
   by_cases h1 : n < -4611686018427387904
   ·
    have Hf : Hid (allRight l = false) := by
     show _ = _
     rw [Bool.eq_false_iff, Ne, allRight_iff]
     intro hx
     have := hx l[k] (List.getElem_mem _)
     rw [← Hn.out] at this
     omega
    go_wp2
    go_ret
    exact ⟨by rw [Hf.out]; rfl, rfl⟩
   by_cases h2 : 4611686018427387904 < n
   ·
    have Hf : Hid (allRight l = false) := by
     show _ = _
     rw [Bool.eq_false_iff, Ne, allRight_iff]
     intro hx
     have := hx l[k] (List.getElem_mem _)
     rw [← Hn.out] at this
     omega
    go_wp2
    go_ret
    exact ⟨by rw [Hf.out]; rfl, rfl⟩
   ·
    go_wp2
    go_round
    case rel =>
     refine ⟨k + 1, by omega, by go_num, ?_⟩
     show _ = _
     have h0 := Hall.out
     rw [allRight_iff] at h0 ⊢
     rw [take_snoc _ _ hlt]
     intro x hx
     rcases List.mem_append.1 hx with hx | hx
     ·
      exact h0 x hx
     ·
      simp at hx
      rw [hx, ← Hn.out]
      omega
    case measure => simp [intOf]; omega
  ·
   have Hf : Hid (allRight l = true) := by
    show _ = _
    rw [← Hall.out, List.take_of_length_le (by omega)]
   go_wp2
   go_ret
   exact ⟨by rw [Hf.out]; rfl, rfl⟩
end Cam
