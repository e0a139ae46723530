import Derived.Test.YtfkkojdaceedpaaPkR
/- cambistref04: Ints, Mark, Text. -/
namespace Cam
open Go Go.RowKit Go.Proofs

set_option maxHeartbeats 1600000 in
theorem rEncs_any (w : World) (v : Value) (xs : List Int) (h : Is w v xs) (hr : ∀ n ∈ xs, -9223372036854775808 ≤ n ∧ n ≤ 9223372036854775807) (hlen : xs.length ≤ 1000000) :
    Calls Try.prog 32 #[v] w (RetB 5 w (encIs xs)) := by
  obtain ⟨a, cap, rfl, hcap, hm⟩ := h.shape
  have HR := Lib.hid hr
  clear hr
  go_enter Try.func32, Try.ntmps32
  go_wp2_with fail
  go_loopw [3, 4] (fun s i wr => ∃ (k : Nat) (a2 : Option Addr) (n2 c2 : Nat), k ≤ xs.length ∧ i = .int .i64 k ∧ s = .slice a2 n2 c2 ∧ OwnB 5 wr w.heap.size (.slice a2 n2 c2) (encIs (xs.take k)) ∧ Below w.heap.size w wr) (fun _ i _ => xs.length - (intOf i).toNat)
  case atStart => exact ⟨0, none, 0, 0, Nat.zero_le _, rfl, rfl, OwnB.empty _ _ _, Below.refl _ _⟩
  case round =>
    obtain ⟨k, a2, n2, c2, hk, rfl, rfl, hown, hb⟩ := hrel
    by_cases hlt : k < xs.length
    · obtain ⟨b, off, rfl, _, hc⟩ := (h.monoB hb (Nat.le_refl _)).at (by omega)
      have hck := hc k hlt
      clear hc
      obtain ⟨n, hn⟩ : ∃ n, n = xs[k] := ⟨_, rfl⟩
      have hbn := HR.out _ (List.getElem_mem hlt)
      rw [← hn] at hck hbn
      have en := fun w => rEnc_any w n hbn
      have hel := (encI_length n hbn).1
      have hll := encIs_length (xs.take k) (fun n hn => HR.out n (List.mem_of_mem_take hn))
      have hl2 : (xs.take k).length ≤ xs.length := List.length_take_le' _ _
      have Hn := Lib.hid hn
      clear hn hbn
      go_wp2_with fail
      refine (en _).mono ?_
      rintro e w1 ⟨r, rfl, hr1, hb1⟩
      obtain ⟨a3, n3, c3, rfl, Hn3, _⟩ := OwnB.named hr1
      have ho1 := hown.below hb1
      have hbb := hb.next hb1
      have hsz := hbb.size
      go_wp2_with (first | (at_builtin; refine wpList_append_bytes (v := .slice a2 n2 c2) rfl (.tmp 11) (.tmp 16) 25 rfl (m := encI n) (base := w.heap.size) elem_byte rfl rfl ho1 hr1.bs (by omega) hsz ?_; intro a' n' c' w' Hn' ho' hb' hg'))
      rw [← encIs_snoc, Hn.out, ← take_snoc xs k hlt] at ho'
      exact ⟨⟨k + 1, _, _, _, by omega, by push_cast; rfl, rfl, ho', hbb.trans hb'⟩, by simp [intOf]; omega⟩
    · rw [List.take_of_length_le (by omega)] at hown
      go_wp2_with fail
      go_ret
      exact ⟨_, rfl, hown, hb⟩

theorem OwnB.lit (w : World) (l : List UInt8) (hl : l.length ≤ 1000) : OwnB 5 (w.alloc (.cells (bvs l).toArray 5)) w.heap.size (.slice (some ⟨w.heap.size, 0, none⟩) l.length l.length) l := by
  have := World.ownsRow_lit (e := 5) (base := w.heap.size) (size := 1) w (bvs l).toArray l.length (Nat.le_refl _) (by unfold maxLen; omega) (by simp)
  unfold OwnB
  simpa using this

theorem rMark_any (w : World) (b : Bool) : Calls Try.prog 33 #[.bool b] w (RetB 5 w (markB b)) := by
  cases b with
  | true =>
    go_enter Try.func33, Try.ntmps33
    go_wp2_with fail
    go_ret
    exact ⟨_, rfl, OwnB.lit w [1] (by decide), (Below.refl _ _).alloc (Nat.le_refl _) _⟩
  | false =>
    go_enter Try.func33, Try.ntmps33
    go_wp2_with fail
    go_ret
    exact ⟨_, rfl, OwnB.lit w [0] (by decide), (Below.refl _ _).alloc (Nat.le_refl _) _⟩

theorem rText_any (w : World) (v : Value) (t : List UInt8) (h : Bs w v t) (hlen : t.length ≤ 70368744177664) :
    Calls Try.prog 34 #[v] w (RetB 5 w (textB t)) := by
  obtain ⟨a, cap, rfl, hcap, hm⟩ := h.shape
  have en := fun w => rEnc_any w (t.length : Int) (by omega)
  have hel := (encI_length (t.length : Int) (by omega)).1
  go_enter Try.func34, Try.ntmps34
  go_wp2_with fail
  refine (en _).mono ?_
  rintro e w1 ⟨r, rfl, hr1, hb1⟩
  obtain ⟨a3, n3, c3, rfl, Hn3, _⟩ := OwnB.named hr1
  have ht := h.mono hb1
  have hsz := hb1.size
  go_wp2_with (first | (at_builtin; refine wpList_append_bytes (v := .slice a3 n3 c3) rfl (.tmp 5) (.tmp 6) 25 rfl (l := encI (t.length : Int)) (m := t) (base := w.heap.size) elem_byte rfl rfl hr1 ht (by omega) hsz ?_; intro a' n' c' w' Hn' ho' hb' hg'))
  go_ret
  exact ⟨_, rfl, ho', hb1.trans hb'⟩

end Cam
