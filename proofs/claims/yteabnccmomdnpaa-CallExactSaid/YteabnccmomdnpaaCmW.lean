import Derived.Test.YteabnccmomdnpaaClX
/- cambistref15.Without. -/
namespace Cam
open Go Go.RowKit Go.Proofs

theorem wo_take {ws : List Int} {l : List CT} {k : Nat} (hk : k < l.length) : (l[k].who ∈ ws → withoutL ws (l.take (k + 1)) = withoutL ws (l.take k)) ∧ (¬ l[k].who ∈ ws → withoutL ws (l.take (k + 1)) = withoutL ws (l.take k) ++ [l[k]]) := by
  unfold withoutL
  rw [take_snoc l k hk, List.filter_append]
  constructor
  · intro h
    simp [h]
  · intro h
    simp [h]
theorem mem_take_succ {ws : List Int} {q : Nat} (hq : q < ws.length) (x : Int) : x ∈ ws.take (q + 1) ↔ x ∈ ws.take q ∨ ws[q] = x := by
  rw [take_snoc ws q hq, List.mem_append, List.mem_singleton]
  constructor
  · rintro (h | h)
    · exact Or.inl h
    · exact Or.inr h.symm
  · rintro (h | h)
    · exact Or.inl h
    · exact Or.inr h.symm

set_option maxRecDepth 100000 in
set_option maxHeartbeats 3200000 in
theorem rWithout_any (w : World) (v vw : Value) (l : List CT) (ws : List Int) (h : Cs w v l) (hw : Is w vw ws) (hl : l.length ≤ 100000) :
    Calls Try.prog 24 #[v, vw] w (WoPost w ws l) := by
  obtain ⟨av, cap, rfl, hcap, hm⟩ := h.shape
  obtain ⟨aw, capw, rfl, hcapw, hmw⟩ := hw.shape
  obtain ⟨n, hn⟩ : ∃ n, n = l.length := ⟨_, rfl⟩
  obtain ⟨m, hmm⟩ : ∃ m, m = ws.length := ⟨_, rfl⟩
  have HN := Lib.hid hn
  have HM := Lib.hid hmm
  rw [← hn] at hcap hl h ⊢
  rw [← hmm] at hcapw hw ⊢
  have HV := Lib.hid h
  have HW := Lib.hid hw
  clear hn hmm h hw
  go_enter Try.func24, Try.ntmps24
  go_wp2_with fail
  go_loopw [5, 6] (fun v5 v6 wr => ∃ (k : Nat) (xs : List CT) (a5 : Option Addr) (n5 c5 : Nat), k ≤ n ∧ v6 = .int .i64 k ∧ v5 = .slice a5 n5 c5 ∧ OwnC wr w.heap.size (.slice a5 n5 c5) xs ∧ Hid (xs = withoutL ws (l.take k)) ∧ Below w.heap.size w wr) (fun _ i _ => n - (intOf i).toNat)
  case atStart => exact ⟨0, [], none, 0, 0, Nat.zero_le _, rfl, rfl, OwnR.empty CT.len _ _ _, rfl, Below.refl _ _⟩
  case round =>
    obtain ⟨k, xs, a5, n5, c5, hk, rfl, rfl, ho, HXS, hbel⟩ := hrel
    have hlen : xs.length ≤ 100000 := by
      have h1 := List.length_filter_le (fun c : CT => !decide (c.who ∈ ws)) (l.take k)
      rw [List.length_take] at h1
      rw [HXS.out]
      unfold withoutL
      omega
    have HO := Lib.hid ho
    have HBE := Lib.hid hbel
    have HLEN := Lib.hid hlen
    clear ho hbel hlen
    by_cases hlt : k < n
    · have hkl : k < l.length := by have := HN.out; omega
      obtain ⟨c, hcx⟩ : ∃ c, c = l[k] := ⟨_, rfl⟩
      have hwt := wo_take (ws := ws) hkl
      rw [← hcx] at hwt
      have HWT := Lib.hid hwt
      obtain ⟨bl, off, rfl, _, hcs0⟩ := Cs.at4 (HV.out.mono HBE.out) (by omega)
      obtain ⟨m0, m1, m2, m3⟩ := hcs0 k hkl
      rw [← hcx] at m0 m1 m2 m3
      clear hwt hcs0 hcx
      obtain ⟨cw, cc, ca, ct⟩ := c
      simp only at m0 m1 m2 m3 HWT
      have hkn : decide ((k : Int) < (n : Int)) = true := decide_eq_true (by omega)
      have HM4 := Lib.hid (⟨m0, m1, m2, m3⟩ : _ ∧ _ ∧ _ ∧ _)
      clear m0 m1 m2 m3
      go_wp2_with fail
      go_loopw [7, 8] (fun v7 v8 wi => ∃ (q : Nat) (b : Bool), q ≤ m ∧ v8 = .int .i64 q ∧ v7 = .bool b ∧ Hid (b = decide (cw ∈ ws.take q)) ∧ Below wr.heap.size wr wi) (fun _ i _ => m - (intOf i).toNat)
      case atStart => exact ⟨0, false, Nat.zero_le _, rfl, rfl, by show _ = _; simp, Below.refl _ _⟩
      case round =>
        obtain ⟨q, b, hq, rfl, rfl, HBQ, hbi⟩ := hrel
        obtain ⟨m0, m1, m2, m3⟩ := HM4.out
        have c0 := (Below.cell hbi (World.block_lt_of_cell? _ _ m0)).trans m0
        by_cases hqt : q < m
        · have hql : q < ws.length := by have := HM.out; omega
          have hmt := mem_take_succ hql cw
          have HMT := Lib.hid hmt
          obtain ⟨bw, ow, rfl, _, hcs⟩ := Is.at (HW.out.mono (HBE.out.next hbi)) (by omega)
          have e0 := hcs q hql
          obtain ⟨x, hx⟩ : ∃ x, x = ws[q] := ⟨_, rfl⟩
          rw [← hx] at e0 HMT
          have HBI := Lib.hid hbi
          clear hcs hx hmt hbi m0 m1 m2 m3
          cases b with
          | true =>
            have hnew : Hid (true = decide (cw ∈ ws.take (q + 1))) := by
              show _ = _
              have := HBQ.out
              rw [eq_comm, decide_eq_true_eq] at this ⊢
              exact HMT.out.2 (Or.inl this)
            go_wp2_with fail
            go_quiet (fail)
            go_wp2_with fail
            exact ⟨⟨q + 1, true, by omega, by push_cast; rfl, rfl, hnew, below_drewN' HBI.out _⟩, by simp [intOf]; omega⟩
          | false =>
            have hnew : Hid ((x == cw) = decide (cw ∈ ws.take (q + 1))) := by
              show _ = _
              have := HBQ.out
              rw [eq_comm, decide_eq_false_iff_not] at this
              rw [Bool.eq_iff_iff, beq_iff_eq, decide_eq_true_eq, HMT.out]
              exact ⟨Or.inr, fun h => h.resolve_left this⟩
            go_wp2_with fail
            go_quiet (fail)
            go_wp2_with fail
            exact ⟨⟨q + 1, (x == cw), by omega, by push_cast; rfl, rfl, hnew, below_drewN' HBI.out _⟩, by simp [intOf]; omega⟩
        · obtain rfl : q = m := by omega
          have hb : b = decide (cw ∈ ws) := by
            rw [HBQ.out, List.take_of_length_le (by have := HM.out; omega)]
          have c1 := (Below.cell hbi (World.block_lt_of_cell? _ _ m1)).trans m1
          have c2 := (Below.cell hbi (World.block_lt_of_cell? _ _ m2)).trans m2
          have c3 := (Below.cell hbi (World.block_lt_of_cell? _ _ m3)).trans m3
          have HB := Lib.hid hb
          have hoI := HO.out.below hbi
          have hbI := HBE.out.next hbi
          clear hbi m0 m1 m2 m3 hb HBQ
          cases b with
          | true =>
            have HNEW : Hid (xs = withoutL ws (l.take (k + 1))) := by
              show _ = _
              rw [HWT.out.1 (by have := HB.out; rw [eq_comm, decide_eq_true_eq] at this; exact this)]
              exact HXS.out
            have HOI := Lib.hid hoI
            have HBI := Lib.hid hbI
            clear hoI hbI
            go_wp2_with fail
            exact ⟨⟨k + 1, xs, a5, n5, c5, by omega, by push_cast; rfl, rfl, HOI.out, HNEW, HBI.out⟩, by simp [intOf]; omega⟩
          | false =>
            have HNEW : Hid (xs ++ [(⟨cw, cc, ca, ct⟩ : CT)] = withoutL ws (l.take (k + 1))) := by
              show _ = _
              rw [HWT.out.2 (by have := HB.out; rw [eq_comm, decide_eq_false_iff_not] at this; exact this), HXS.out]
            have hoA := hoI.alloc (.cells #[.int .i64 cw, .int .i64 cc, .int .i64 ca, .int .i64 ct] 28)
            have hone : Cs (wr.alloc (.cells #[.int .i64 cw, .int .i64 cc, .int .i64 ca, .int .i64 ct] 28)) (.slice (some ⟨wr.heap.size, 0, none⟩) 1 1) [(⟨cw, cc, ca, ct⟩ : CT)] := Rs.one CT.len wr (⟨cw, cc, ca, ct⟩ : CT) 28
            have hbA := hbI.alloc hbI.size (.cells #[.int .i64 cw, .int .i64 cc, .int .i64 ca, .int .i64 ct] 28)
            have hszA := hbA.size
            have hle : (xs.length + [(⟨cw, cc, ca, ct⟩ : CT)].length) * 32 ≤ 140737488355328 := by have := HLEN.out; simp; omega
            have HBA := Lib.hid hbA
            clear hbA hbI hoI
            go_wp2_with (first
              | (at_builtin; refine wpList_append_rows (v := .slice a5 n5 c5) rfl (.tmp 37) (.tmp 42) 22 rfl (L := xs) (M := [(⟨cw, cc, ca, ct⟩ : CT)]) (base := w.heap.size) elem_call rfl rfl hoA hone CT.one hle (by decide) hszA ?_; intro a8 n8 c8 w8 Hn8 ho8 hg8 hat8 hb8)
              | fail)
            exact ⟨⟨k + 1, xs ++ [(⟨cw, cc, ca, ct⟩ : CT)], a8, n8, c8, by omega, by push_cast; rfl, rfl, ho8, HNEW, HBA.out.trans hb8⟩, by simp [intOf]; omega⟩
    · have hfin : xs = withoutL ws l := by rw [HXS.out, List.take_of_length_le (by have := HN.out; omega)]
      have HF := Lib.hid hfin
      clear hfin
      go_wp2_with fail
      go_ret
      exact ⟨_, rfl, by rw [← HF.out]; exact HO.out, HBE.out⟩
end Cam
