import Derived.Test.YteabnccmomdnpaaClI
/- call.Without. -/
namespace Cam
open Go Go.RowKit Go.Proofs

def withoutL (ws : List Int) (l : List CT) : List CT := l.filter (fun c => !decide (c.who ∈ ws))
def WoPost (w : World) (ws : List Int) (l : List CT) (e : Ending) (w' : World) : Prop := ∃ v, e = .returned v ∧ OwnC w' w.heap.size v (withoutL ws l) ∧ Below w.heap.size w w'

set_option maxHeartbeats 1600000 in
theorem Without_any (w : World) (v vw : Value) (l : List CT) (ws : List Int) (h : Cs w v l) (hw : Is w vw ws) (hl : l.length ≤ 100000) :
    Calls Try.prog 16 #[v, vw] w (WoPost w ws l) := by
  obtain ⟨av, cap, rfl, hcap, hm⟩ := h.shape
  obtain ⟨n, hn⟩ : ∃ n, n = l.length := ⟨_, rfl⟩
  have HN := Lib.hid hn
  rw [← hn] at hcap hl ⊢
  rw [← hn] at h
  clear hn
  go_enter Try.func16, Try.ntmps16
  go_wp2_with fail
  go_loopw [5, 10] (fun v5 i wr => ∃ (k : Nat) (xs : List CT) (a5 : Option Addr) (n5 c5 : Nat), k ≤ n ∧ i = .int .i64 k ∧ v5 = .slice a5 n5 c5 ∧ OwnC wr w.heap.size (.slice a5 n5 c5) xs ∧ Hid (xs = withoutL ws (l.take k)) ∧ Below w.heap.size w wr) (fun _ i _ => n - (intOf i).toNat)
  case atStart => exact ⟨0, [], none, 0, 0, Nat.zero_le _, rfl, rfl, OwnR.empty CT.len _ _ _, rfl, Below.refl _ _⟩
  case round =>
    obtain ⟨k, xs, a5, n5, c5, hk, rfl, rfl, ho5, HL, hbel⟩ := hrel
    have hlen : xs.length ≤ 100000 := by
      have h1 := List.length_filter_le (fun c : CT => !decide (c.who ∈ ws)) (l.take k)
      rw [List.length_take] at h1
      rw [HL.out]
      unfold withoutL
      omega
    by_cases hlt : k < n
    · have hkl : k < l.length := by have := HN.out; omega
      obtain ⟨b, off, rfl, _, hc⟩ := Cs.at4 (h.mono hbel) (by omega)
      obtain ⟨c, hcx⟩ : ∃ c, c = l[k] := ⟨_, rfl⟩
      obtain ⟨hc0, hc1, hc2, hc3⟩ := hc k hkl
      rw [← hcx] at hc0 hc1 hc2 hc3
      have HC := Lib.hid hcx
      have hsz := hbel.size
      have hbA : Below w.heap.size w (wr.alloc (.cells #[.int .i64 c.who, .int .i64 c.cur, .int .i64 c.amt, .int .i64 c.tick] 28)) := hbel.alloc hsz _
      have hb1 : Below w.heap.size w ((wr.alloc (.cells #[.int .i64 c.who, .int .i64 c.cur, .int .i64 c.amt, .int .i64 c.tick] 28)).alloc (.cells #[.int .i64 c.who, .int .i64 c.cur, .int .i64 c.amt, .int .i64 c.tick] 28)) := hbA.alloc (by simp; omega) _
      have ho5A : OwnC ((wr.alloc (.cells #[.int .i64 c.who, .int .i64 c.cur, .int .i64 c.amt, .int .i64 c.tick] 28)).alloc (.cells #[.int .i64 c.who, .int .i64 c.cur, .int .i64 c.amt, .int .i64 c.tick] 28)) w.heap.size (.slice a5 n5 c5) xs := (ho5.alloc _).alloc _
      have hone : Cs ((wr.alloc (.cells #[.int .i64 c.who, .int .i64 c.cur, .int .i64 c.amt, .int .i64 c.tick] 28)).alloc (.cells #[.int .i64 c.who, .int .i64 c.cur, .int .i64 c.amt, .int .i64 c.tick] 28)) (.slice (some ⟨wr.heap.size + 1, 0, none⟩) 1 1) [c] := by
        have := Rs.one CT.len (wr.alloc (.cells #[.int .i64 c.who, .int .i64 c.cur, .int .i64 c.amt, .int .i64 c.tick] 28)) c 28
        rw [show (wr.alloc (.cells #[.int .i64 c.who, .int .i64 c.cur, .int .i64 c.amt, .int .i64 c.tick] 28)).heap.size = wr.heap.size + 1 by simp] at this
        exact this
      have hsz1 := hb1.size
      have hle5 : (xs.length + [c].length) * 32 ≤ 140737488355328 := by simp; omega
      have ct := Contains_any _ vw ws c.who (hw.mono hbA)
      obtain ⟨B, hB⟩ : ∃ B, B = decide (c.who ∈ ws) := ⟨_, rfl⟩
      rw [← hB] at ct
      have HL2 : Hid (withoutL ws (l.take (k + 1)) = if B = true then xs else xs ++ [c]) := by
        show _ = _
        rw [take_snoc l k hkl, ← HC.out, HL.out, hB]
        by_cases hm : c.who ∈ ws <;> simp [withoutL, hm]
      have ho5W := Lib.hid (ho5.alloc (.cells #[.int .i64 c.who, .int .i64 c.cur, .int .i64 c.amt, .int .i64 c.tick] 28))
      have HBW := Lib.hid hbA
      clear hc hcx hbel ho5 hbA hB HL h hw
      go_wp2_with fail
      refine ct.mono ?_
      clear ct
      rintro e w9 ⟨rfl, rfl⟩
      cases B with
      | true =>
        go_wp2_with fail
        exact ⟨⟨k + 1, xs, a5, n5, c5, by omega, by push_cast; rfl, rfl, ho5W.out, HL2.out.symm, HBW.out⟩, by simp [intOf]; omega⟩
      | false =>
        go_wp2_with (first
          | (at_builtin; refine wpList_append_rows (v := .slice a5 n5 c5) rfl (.tmp 20) (.tmp 22) 22 rfl (L := xs) (M := [c]) (base := w.heap.size) elem_call rfl rfl ho5A hone CT.one hle5 (by decide) hsz1 ?_; intro a7 n7 c7 w7 Hn7 ho7 hg7 hat7 hb7)
          | fail)
        exact ⟨⟨k + 1, xs ++ [c], a7, n7, c7, by omega, by push_cast; rfl, rfl, ho7, HL2.out.symm, hb1.trans hb7⟩, by simp [intOf]; omega⟩
    · have HFIN : Hid (xs = withoutL ws l) := by
        show _ = _
        rw [HL.out, List.take_of_length_le (by have := HN.out; omega)]
      go_wp2_with fail
      go_ret
      exact ⟨_, rfl, by rw [← HFIN.out]; exact ho5, hbel⟩

end Cam
