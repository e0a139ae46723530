import Derived.Test.YtgeclnjkkjmbaaaWrR
/- cambistref04: Ints, Mark, Text. -/
namespace Cam
open Go Go.RowKit Go.Proofs

set_option maxHeartbeats 1600000 in
theorem rEncs_any (w : World) (v : Value) (xs : List Int) (h : Is w v xs) (hr : ∀ n ∈ xs, -9223372036854775808 ≤ n ∧ n ≤ 9223372036854775807) (hlen : xs.length ≤ 1000000) :
    Calls Try.prog 49 #[v] w (RetB 5 w (encIs xs)) := by
  obtain ⟨a, cap, rfl, hcap, hm⟩ := h.shape
  have HR := Lib.hid hr
  clear hr
  go_enter Try.func49, Try.ntmps49
  go_wp2_with fail
  go_loopw [3, 4] (fun s i wr => ∃ (k : Nat) (a2 : Option Addr) (n2 c2 : Nat), k ≤ xs.length ∧ i = .int .i64 k ∧ s = .slice a2 n2 c2 ∧ OwnB 5 wr w.heap.size (.slice a2 n2 c2) (encIs (xs.take k)) ∧ Below w.heap.size w wr) (fun _ i _ => xs.length - (intOf i).toNat)
  case atStart => exact ⟨0, none, 0, 0, Nat.zero_le _, rfl, rfl, OwnB.empty _ _ _, Below.refl _ _⟩
  case round =>
    obtain ⟨k, a2, n2, c2, hk, rfl, rfl, hown, hb⟩ := hrel
    by_cases hlt : k < xs.length
    · obtain ⟨b, off, rfl, _, hc⟩ := (h.monoB hb (Nat.le_refl _)).at (by omega)
      have hck := hc k hlt
      clear hc
      obtain ⟨n, hn⟩ : ∃ n, n = xs[k] := ⟨_, rfl⟩
      have hbn := HR.out _ (List.getElem_mem hlt)
      rw [← hn] at hck hbn
      have en := fun w => rEnc_any w n hbn
      have hel := (encI_length n hbn).1
      have hll := encIs_length (xs.take k) (fun n hn => HR.out n (List.mem_of_mem_take hn))
      have hl2 : (xs.take k).length ≤ xs.length := List.length_take_le' _ _
      have Hn := Lib.hid hn
      clear hn hbn
      go_wp2_with fail
      refine (en _).mono ?_
      rintro e w1 ⟨r, rfl, hr1, hb1⟩
      obtain ⟨a3, n3, c3, rfl, Hn3, _⟩ := OwnB.named hr1
      have ho1 := hown.below hb1
      have hbb := hb.next hb1
      have hsz := hbb.size
      go_wp2_with (first | (at_builtin; refine wpList_append_bytes (v := .slice a2 n2 c2) rfl (.tmp 11) (.tmp 16) 25 rfl (m := encI n) (base := w.heap.size) elem_byte rfl rfl ho1 hr1.bs (by omega) hsz ?_; intro a' n' c' w' Hn' ho' hb' hg'))
      rw [← encIs_snoc, Hn.out, ← take_snoc xs k hlt] at ho'
      exact ⟨⟨k + 1, _, _, _, by omega, by push_cast; rfl, rfl, ho', hbb.trans hb'⟩, by simp [intOf]; omega⟩
    · rw [List.take_of_length_le (by omega)] at hown
      go_wp2_with fail
      go_ret
      exact ⟨_, rfl, hown, hb⟩

theorem OwnB.lit (w : World) (l : List UInt8) (hl : l.length ≤ 1000) : OwnB 5 (w.alloc (.cells (bvs l).toArray 5)) w.heap.size (.slice (some ⟨w.heap.size, 0, none⟩) l.length l.length) l := by
  have := World.ownsRow_lit (e := 5) (base := w.heap.size) (size := 1) w (bvs l).toArray l.length (Nat.le_refl _) (by unfold maxLen; omega) (by simp)
  unfold OwnB
  simpa using this

end Cam
