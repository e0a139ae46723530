import Derived.Test.YteabnccmomdnpaaClS
/- cambistkeep.TwinCalls; cambistref15.Late. -/
namespace Cam
open Go Go.RowKit Go.Proofs

set_option maxHeartbeats 800000 in
theorem TwinCalls_any (w : World) (v : Value) (l : List CT) (h : Cs w v l) (hl : l.length ≤ 100000) :
    Calls Try.prog 19 #[v] w (ClonePost w l) := by
  obtain ⟨av, cap, rfl, hcap, hm⟩ := h.shape
  have h0 : OwnC w w.heap.size (.slice none 0 0) [] := OwnR.empty CT.len _ _ _
  have hle : (([] : List CT).length + l.length) * 32 ≤ 140737488355328 := by simp; omega
  go_enter Try.func19, Try.ntmps19
  go_wp2_with (first
    | (at_builtin; refine wpList_append_rows (v := .slice none 0 0) rfl (.tmp 4) (.tmp 5) 22 rfl (L := []) (M := l) (base := w.heap.size) elem_call rfl rfl h0 h CT.one hle (by decide) (Nat.le_refl _) ?_; intro a7 n7 c7 w7 Hn7 ho7 hg7 hat7 hb7)
    | fail)
  go_ret
  exact ⟨a7, n7, c7, rfl, ho7, hb7⟩
set_option maxHeartbeats 1600000 in
theorem rLate_any (w : World) (now : Int) (v : Value) (l : List CT) (h : Cs w v l) (hl : l.length ≤ 100000) :
    Calls Try.prog 23 #[.int .i64 now, v] w (LatePost w now l) := by
  obtain ⟨av, cap, rfl, hcap, hm⟩ := h.shape
  obtain ⟨n, hn⟩ : ∃ n, n = l.length := ⟨_, rfl⟩
  have HN := Lib.hid hn
  rw [← hn] at hcap hl ⊢
  rw [← hn] at h
  clear hn
  go_enter Try.func23, Try.ntmps23
  go_wp2_with fail
  go_loopw [6, 7, 8] (fun v4 v5 i wr => ∃ (k : Nat) (xs ys : List CT) (a4 a5 : Option Addr) (n4 c4 n5 c5 : Nat), k ≤ n ∧ i = .int .i64 k ∧ v4 = .slice a4 n4 c4 ∧ v5 = .slice a5 n5 c5 ∧ OwnC wr w.heap.size (.slice a4 n4 c4) xs ∧ OwnC wr w.heap.size (.slice a5 n5 c5) ys ∧ Hid (Ap (.slice a4 n4 c4) (.slice a5 n5 c5)) ∧ Hid (xs = lateL now (l.take k) ∧ ys = leftL now (l.take k)) ∧ Below w.heap.size w wr) (fun _ _ i _ => n - (intOf i).toNat)
  case atStart => exact ⟨0, [], [], none, none, 0, 0, 0, 0, Nat.zero_le _, rfl, rfl, rfl, OwnR.empty CT.len _ _ _, OwnR.empty CT.len _ _ _, Ap.nil, ⟨rfl, rfl⟩, Below.refl _ _⟩
  case round =>
    obtain ⟨k, xs, ys, a4, a5, n4, c4, n5, c5, hk, rfl, rfl, rfl, ho4, ho5, HAP, HL, hbel⟩ := hrel
    have hlen : xs.length ≤ 100000 ∧ ys.length ≤ 100000 := by
      have h1 := List.length_filter_le (fun c : CT => decide (c.tick ≤ now)) (l.take k)
      have h2 := List.length_filter_le (fun c : CT => !decide (c.tick ≤ now)) (l.take k)
      rw [List.length_take] at h1 h2
      rw [HL.out.1, HL.out.2]
      unfold lateL leftL
      omega
    by_cases hlt : k < n
    · have hkl : k < l.length := by have := HN.out; omega
      obtain ⟨b, off, rfl, _, hc⟩ := Cs.at4 (h.mono hbel) (by omega)
      obtain ⟨c, hcx⟩ : ∃ c, c = l[k] := ⟨_, rfl⟩
      obtain ⟨hc0, hc1, hc2, hc3⟩ := hc k hkl
      rw [← hcx] at hc0 hc1 hc2 hc3
      have HC := Lib.hid hcx
      have hsz := hbel.size
      have hb1 : Below w.heap.size w (wr.alloc (.cells #[.int .i64 c.who, .int .i64 c.cur, .int .i64 c.amt, .int .i64 c.tick] 28)) := hbel.alloc hsz _
      have ho4A : OwnC (wr.alloc (.cells #[.int .i64 c.who, .int .i64 c.cur, .int .i64 c.amt, .int .i64 c.tick] 28)) w.heap.size (.slice a4 n4 c4) xs := ho4.alloc _
      have ho5A : OwnC (wr.alloc (.cells #[.int .i64 c.who, .int .i64 c.cur, .int .i64 c.amt, .int .i64 c.tick] 28)) w.heap.size (.slice a5 n5 c5) ys := ho5.alloc _
      have hone : Cs (wr.alloc (.cells #[.int .i64 c.who, .int .i64 c.cur, .int .i64 c.amt, .int .i64 c.tick] 28)) (.slice (some ⟨wr.heap.size, 0, none⟩) 1 1) [c] := Rs.one CT.len wr c 28
      have hsz1 := hb1.size
      have hle4 : (xs.length + [c].length) * 32 ≤ 140737488355328 := by simp; omega
      have hle5 : (ys.length + [c].length) * 32 ≤ 140737488355328 := by simp; omega
      clear hc hcx hbel ho4 ho5
      by_cases hla : c.tick ≤ now
      · have HL2 : Hid (xs ++ [c] = lateL now (l.take (k + 1)) ∧ ys = leftL now (l.take (k + 1))) := by
          show _ ∧ _
          rw [take_snoc l k hkl, ← HC.out, HL.out.1, HL.out.2]
          simp [lateL, leftL, hla]
        go_wp2_with (first
          | (at_builtin; refine wpList_append_rows (v := .slice a4 n4 c4) rfl (.tmp 22) (.tmp 27) 22 rfl (L := xs) (M := [c]) (base := w.heap.size) elem_call rfl rfl ho4A hone CT.one hle4 (by decide) hsz1 ?_; intro a7 n7 c7 w7 Hn7 ho7 hg7 hat7 hb7)
          | fail)
        have ho5B := ho5A.grown hg7 (fun q hq e => HAP.out q e hq)
        have HAP2 : Hid (Ap (.slice a7 n7 c7) (.slice a5 n5 c5)) := Ap.step HAP.out hat7 (OwnR.lt ho5A)
        exact ⟨⟨k + 1, xs ++ [c], ys, a7, a5, n7, c7, n5, c5, by omega, by push_cast; rfl, rfl, rfl, ho7, ho5B, HAP2, HL2, hb1.trans hb7⟩, by simp [intOf]; omega⟩
      · have hla' : decide (c.tick ≤ now) = false := by simpa using hla
        have HL2 : Hid (xs = lateL now (l.take (k + 1)) ∧ ys ++ [c] = leftL now (l.take (k + 1))) := by
          show _ ∧ _
          rw [take_snoc l k hkl, ← HC.out, HL.out.1, HL.out.2]
          simp [lateL, leftL, hla]
        go_wp2_with (first
          | (at_builtin; refine wpList_append_rows (v := .slice a5 n5 c5) rfl (.tmp 29) (.tmp 34) 22 rfl (L := ys) (M := [c]) (base := w.heap.size) elem_call rfl rfl ho5A hone CT.one hle5 (by decide) hsz1 ?_; intro a7 n7 c7 w7 Hn7 ho7 hg7 hat7 hb7)
          | fail)
        have ho4B := ho4A.grown hg7 (fun q hq e => HAP.out q hq e)
        have HAP2 : Hid (Ap (.slice a4 n4 c4) (.slice a7 n7 c7)) := (Ap.step HAP.out.symm hat7 (OwnR.lt ho4A)).symm
        exact ⟨⟨k + 1, xs, ys ++ [c], a4, a7, n4, c4, n7, c7, by omega, by push_cast; rfl, rfl, rfl, ho4B, ho7, HAP2, HL2, hb1.trans hb7⟩, by simp [intOf]; omega⟩
    · have hfin : xs = lateL now l ∧ ys = leftL now l := by
        rw [HL.out.1, HL.out.2, List.take_of_length_le (by have := HN.out; omega)]
        exact ⟨rfl, rfl⟩
      have HFIN := Lib.hid hfin
      clear hfin
      go_wp2_with fail
      go_ret2
      exact ⟨_, _, rfl, by rw [← HFIN.out.1]; exact ho4, by rw [← HFIN.out.2]; exact ho5, HAP.out, hbel⟩

end Cam
