import Derived.Test.YteabnccmomdnpaaClA
import Derived.Test.YteabnccmomdnpaaClK
/- cambistlaw18: CallLate. -/
namespace Cam
open Go Go.RowKit Go.Proofs

theorem flatW_cut1 {α : Type} {f : α → List Value} {K : Nat} : ∀ {L : List α} (_ : ∀ a, (f a).length = K) {i : Nat} (hi : i < L.length), ((flatW f L).drop (i * K)).take K = flatW f [L[i]]
  | [], _, i, hi => by simp at hi
  | a :: L, h, 0, _ => by
    rw [show flatW f (a :: L) = f a ++ flatW f L from rfl, Nat.zero_mul, List.drop_zero, List.take_left' (h a)]
    simp [flatW]
  | a :: L, h, i + 1, hi => by
    have ih := flatW_cut1 (L := L) h (i := i) (by simpa using hi)
    rw [show flatW f (a :: L) = f a ++ flatW f L from rfl, show (i + 1) * K = (f a).length + i * K by rw [h a, Nat.add_mul]; omega, List.drop_append, List.drop_eq_nil_of_le (by omega), List.nil_append, Nat.add_sub_cancel_left, ih]
    rfl
theorem Cs.cut1 {w : World} {b off n cap : Nat} {L : List CT} (h : Cs w (.slice (some ⟨b, off, none⟩) n cap) L) {i : Nat} (hi : i < L.length) (hc : i < cap) : Cs w (.slice (some ⟨b, off + i * 4, none⟩) 1 (cap - i)) [L[i]] := by
  have h1 := h.2.cut i (i + 1) (by omega) (by omega)
  rw [if_neg (by omega), Nat.add_sub_cancel_left, Nat.one_mul, flatW_cut1 CT.len hi] at h1
  refine ⟨CT.len, ?_⟩
  by_cases e : i = 0
  · subst e
    simpa [Addr.add] using h1
  · simp only [Option.map_some, Addr.add] at h1
    rw [if_neg (by omega)] at h1
    exact h1
theorem filt_at (p : CT → Bool) (l : List CT) {N : Nat} (hN : N < l.length) (h : p l[N] = true) : ∃ hi : ((l.take N).filter p).length < (l.filter p).length, (l.filter p)[((l.take N).filter p).length] = l[N] := by
  have e : l.filter p = (l.take N).filter p ++ l[N] :: (l.drop (N + 1)).filter p := by
    conv => lhs; rw [← List.take_append_drop N l, List.drop_eq_getElem_cons hN, List.filter_append, List.filter_cons_of_pos h]
  have hi : ((l.take N).filter p).length < (l.filter p).length := by rw [e]; simp
  refine ⟨hi, ?_⟩
  apply Option.some.inj
  rw [← List.getElem?_eq_getElem, e, List.getElem?_append_right (Nat.le_refl _), Nat.sub_self]
  rfl
theorem filt_succ (p : CT → Bool) (l : List CT) {N : Nat} (hN : N < l.length) : ((l.take (N + 1)).filter p).length = ((l.take N).filter p).length + (if p l[N] = true then 1 else 0) := by
  rw [List.take_succ_eq_append_getElem hN, List.filter_append, List.length_append]
  by_cases h : p l[N] = true
  · rw [List.filter_cons_of_pos h, if_pos h]; simp
  · rw [List.filter_cons_of_neg h, if_neg h]; simp
theorem late_left (now : Int) : ∀ l : List CT, (lateL now l).length + (leftL now l).length = l.length
  | [] => rfl
  | c :: l => by
    have ih := late_left now l
    unfold lateL leftL at ih ⊢
    by_cases h : c.tick ≤ now
    · rw [List.filter_cons_of_pos (by simpa using h), List.filter_cons_of_neg (by simpa using h)]
      simp only [List.length_cons]
      omega
    · rw [List.filter_cons_of_neg (by simpa using h), List.filter_cons_of_pos (by simpa using h)]
      simp only [List.length_cons]
      omega
theorem late_le {now later : Int} (h : now ≤ later) : ∀ l : List CT, (lateL now l).length ≤ (lateL later l).length
  | [] => Nat.le_refl _
  | c :: l => by
    have ih := late_le h l
    unfold lateL at ih ⊢
    by_cases h1 : c.tick ≤ now
    · rw [List.filter_cons_of_pos (by simpa using h1), List.filter_cons_of_pos (by simpa using (by omega : c.tick ≤ later))]
      simp only [List.length_cons]
      omega
    · rw [List.filter_cons_of_neg (by simpa using h1)]
      by_cases h2 : c.tick ≤ later
      · rw [List.filter_cons_of_pos (by simpa using h2)]
        simp only [List.length_cons]
        omega
      · rw [List.filter_cons_of_neg (by simpa using h2)]
        exact ih
def cA (now : Int) (l : List CT) (N : Nat) : Nat := (lateL now (l.take N)).length
def cB (now : Int) (l : List CT) (N : Nat) : Nat := (leftL now (l.take N)).length
theorem cA_yes {now : Int} {l : List CT} {N : Nat} (hN : N < l.length) (h : l[N].tick ≤ now) : cA now l (N + 1) = cA now l N + 1 := (filt_succ _ l hN).trans (by rw [if_pos (by simpa using h)]; rfl)
theorem cA_no {now : Int} {l : List CT} {N : Nat} (hN : N < l.length) (h : ¬ l[N].tick ≤ now) : cA now l (N + 1) = cA now l N := (filt_succ _ l hN).trans (by rw [if_neg (by simpa using h)]; rfl)
theorem cB_yes {now : Int} {l : List CT} {N : Nat} (hN : N < l.length) (h : ¬ l[N].tick ≤ now) : cB now l (N + 1) = cB now l N + 1 := (filt_succ _ l hN).trans (by rw [if_pos (by simpa using h)]; rfl)
theorem cB_no {now : Int} {l : List CT} {N : Nat} (hN : N < l.length) (h : l[N].tick ≤ now) : cB now l (N + 1) = cB now l N := (filt_succ _ l hN).trans (by rw [if_neg (by simpa using h)]; rfl)
theorem cA_all (now : Int) (l : List CT) : cA now l l.length = (lateL now l).length := by unfold cA; rw [List.take_length]

theorem cA_at {now : Int} {l : List CT} {N : Nat} (hN : N < l.length) (h : l[N].tick ≤ now) : ∃ hi : cA now l N < (lateL now l).length, (lateL now l)[cA now l N] = l[N] := filt_at _ l hN (by simpa using h)
theorem cB_at {now : Int} {l : List CT} {N : Nat} (hN : N < l.length) (h : ¬ l[N].tick ≤ now) : ∃ hi : cB now l N < (leftL now l).length, (leftL now l)[cB now l N] = l[N] := filt_at _ l hN (by simpa using h)

set_option maxRecDepth 100000 in
set_option maxHeartbeats 3200000 in
theorem CallLate_walk (w : World) (v : Value) (l : List CT) (now later : Int) (h : Cs w v l) :
    Calls Try.prog 3 #[v, .int .i64 now, .int .i64 later] w fun e w' => e = .returned (.bool true) ∧ Below w.heap.size w w' := by
  obtain ⟨al, cl, rfl, hcl, hml⟩ := h.shape
  by_cases c0 : 300 < l.length
  · have hi0 : (300 : Int) < (l.length : Int) := by omega
    go_enter Try.func3, Try.ntmps3
    go_wp2_with fail
    go_ret
    exact ⟨rfl, Below.refl _ _⟩
  have hi0 : decide ((300 : Int) < (l.length : Int)) = false := by simp; omega
  by_cases c1 : later < now
  · go_enter Try.func3, Try.ntmps3
    go_wp2_with fail
    go_ret
    exact ⟨rfl, Below.refl _ _⟩
  have hi1 : decide (later < now) = false := by simp; omega
  have HNL : Hid (now ≤ later) := by show _ ≤ _; omega
  have hl3 : l.length ≤ 300 := by omega
  clear c0 c1
  have lt1 := fun w h => Late_any w now (.slice al l.length cl) l h (by omega)
  have lt2 := fun w h => Late_any w later (.slice al l.length cl) l h (by omega)
  obtain ⟨n, hn⟩ : ∃ n, n = l.length := ⟨_, rfl⟩
  rw [← hn] at h hcl hi0 hl3 lt1 lt2 ⊢
  have HN := Lib.hid hn
  clear hn
  have H := Lib.hid h
  go_enter Try.func3, Try.ntmps3
  go_wp2_with fail
  refine (lt1 _ h).mono ?_
  clear lt1 h
  rintro e w1 ⟨v1, v2, rfl, hA, hB, hx1, hb1⟩
  clear hx1
  obtain ⟨aa, na, ca, rfl, HNA, hA⟩ := hA.named
  obtain ⟨ab, nb, cb, rfl, HNB, hB⟩ := hB.named
  have h1 := H.out.mono hb1
  have HA := Lib.hid hA
  have HB := Lib.hid hB
  have HB1 := Lib.hid hb1
  clear hA hB hb1
  go_wp2_with fail
  refine (lt2 _ h1).mono ?_
  clear lt2 h1
  rintro e w2 ⟨v1, v2, rfl, hC, hx1, hx2, hb2⟩
  clear hx1 hx2
  obtain ⟨ac, nc, cc, rfl, HNC, hx1⟩ := hC.named
  clear hx1
  have hA2 : Cs w2 (.slice aa na ca) (lateL now l) := HA.out.rs.mono hb2
  have hB2 : Cs w2 (.slice ab nb cb) (leftL now l) := HB.out.rs.mono hb2
  have hbe := HB1.out.next hb2
  have hsum : na + nb = n := by rw [HNA.out, HNB.out, HN.out]; exact late_left now l
  have hle : na ≤ nc := by rw [HNA.out, HNC.out]; exact late_le HNL.out l
  have hs1 : ((na : Int) + (nb : Int) != (n : Int)) = false := by simp; omega
  have hs2 : decide (nc < na) = false := by simp; omega
  have hcaa : na ≤ ca := by obtain ⟨_, _, e, h, _⟩ := hA2.shape; simp only [Value.slice.injEq] at e; rw [e.2.2, HNA.out]; exact h
  have hcbb : nb ≤ cb := by obtain ⟨_, _, e, h, _⟩ := hB2.shape; simp only [Value.slice.injEq] at e; rw [e.2.2, HNB.out]; exact h
  have HA2 := Lib.hid hA2
  have HB2 := Lib.hid hB2
  have HBE := Lib.hid hbe
  clear hC hb2 HA HB HB1 hA2 hB2 hbe hle
  go_wp2_with fail
  clear hs1 hs2
  go_loopw [11, 12, 13, 14] (fun i k m N wr => ∃ N' : Nat, N' ≤ n ∧ i = .int .i64 (cA now l N') ∧ k = .int .i64 (cB now l N') ∧ m = .int .i64 (cA later l N') ∧ N = .int .i64 N' ∧ Below w2.heap.size w2 wr) (fun _ _ _ N _ => n - (intOf N).toNat)
  case atStart => exact ⟨0, Nat.zero_le _, rfl, rfl, rfl, rfl, Below.refl _ _⟩
  case round =>
    obtain ⟨N, hN, rfl, rfl, rfl, rfl, hbel2⟩ := hrel
    by_cases hlt : N < n
    · have hNl : N < l.length := by have := HN.out; omega
      have HNn := Lib.hid (show N < n from hlt)
      obtain ⟨gl, ol, rfl, _, hc⟩ := Cs.at4 H.out (by omega)
      have hcw := (hc N hNl).2.2.2
      have hc2 := (HBE.out.cell (World.block_lt_of_cell? w _ hcw)).trans hcw
      obtain ⟨tl, htl⟩ : ∃ t, t = l[N].tick := ⟨_, rfl⟩
      rw [← htl] at hc2
      have HC0 := Lib.hid hc2
      have hc3 := (hbel2.cell (World.block_lt_of_cell? w2 _ hc2)).trans hc2
      obtain ⟨N1, hN1⟩ : ∃ N1, N1 = N + 1 := ⟨_, rfl⟩
      have hLc : Cs wr.drew (.slice (some ⟨gl, ol + N * 4, none⟩) 1 (cl - N)) [l[N]] := (Cs.cut1 H.out hNl (by omega)).mono ((HBE.out.next hbel2).mono (Nat.le_refl _)).drew
      have hNc : N < cl := by omega
      obtain ⟨i, hi⟩ : ∃ i, i = cA now l N := ⟨_, rfl⟩
      obtain ⟨k, hk⟩ : ∃ k, k = cB now l N := ⟨_, rfl⟩
      obtain ⟨m, hm⟩ : ∃ m, m = cA later l N := ⟨_, rfl⟩
      have hm3 : m ≤ 300 := by
        have := List.length_filter_le (fun c : CT => decide (c.tick ≤ later)) (l.take N)
        have h2 : (l.take N).length ≤ N := by rw [List.length_take]; omega
        rw [hm]
        exact Nat.le_trans this (by omega)
      have HI0 := Lib.hid hi
      have HK0 := Lib.hid hk
      have HM0 := Lib.hid hm
      have HT := Lib.hid htl
      have HN1 := Lib.hid hN1
      rw [← hi, ← hk, ← hm]
      clear hi hk hm hc hcw hc2 htl hN1
      by_cases h1 : tl ≤ now
      · have h2 : tl ≤ later := Int.le_trans h1 HNL.out
        obtain ⟨hj, hX⟩ := cA_at (now := now) hNl (by rw [← HT.out]; exact h1)
        have hA3 := HA2.out.mono hbel2
        obtain ⟨ga, oa, rfl, _, _⟩ := Cs.at4 hA3 (Nat.lt_of_le_of_lt (Nat.zero_le _) hj)
        have hin : i < na := by rw [HI0.out, HNA.out]; exact hj
        have hic : i < ca := by omega
        have hXc := Cs.cut1 (hA3.mono (Below.refl _ _).drew) hj (by rw [← HI0.out]; exact hic)
        rw [hX] at hXc
        rw [← HI0.out] at hXc
        have kc := keepCalls_any wr.drew _ _ [l[N]] [l[N]] hXc hLc (by simp)
        rw [decide_eq_true (rfl : [l[N]] = [l[N]])] at kc
        have HI : Hid (Value.int .i64 ((i : Int) + 1) = .int .i64 ((cA now l (N + 1) : Nat) : Int)) := by show _ = _; rw [cA_yes hNl (by rw [← HT.out]; exact h1), ← HI0.out]; push_cast; rfl
        have HK : Hid (Value.int .i64 (k : Int) = .int .i64 ((cB now l (N + 1) : Nat) : Int)) := by show _ = _; rw [cB_no hNl (by rw [← HT.out]; exact h1), ← HK0.out]
        have HMM : Hid (Value.int .i64 ((m : Int) + 1) = .int .i64 ((cA later l (N + 1) : Nat) : Int)) := by show _ = _; rw [cA_yes hNl (by rw [← HT.out]; exact h2), ← HM0.out]; push_cast; rfl
        have hii : decide (na ≤ i) = false := by simp; omega
        have hj9 : i ≤ 300 := by omega
        obtain ⟨j1, hj0⟩ : ∃ j1, j1 = i + 1 := ⟨_, rfl⟩
        have hjs : j1 - i = 1 ∧ i ≤ j1 ∧ j1 ≤ ca := by omega
        have hNs : N1 - N = 1 ∧ N ≤ N1 ∧ N1 ≤ cl := by have := HN1.out; omega
        have hne : ¬ ca = i ∧ ¬ cl = N := by omega
        have hj1 : IntKind.i64.wrap ((i : Int) + 1) = (j1 : Int) := by rw [IntWalk.i64_in _ (by omega)]; omega
        have hN1 : IntKind.i64.wrap ((N : Int) + 1) = (N1 : Int) := by have := HN1.out; rw [IntWalk.i64_in _ (by omega)]; omega
        clear hA3 hj hX hXc hLc HI0 HK0 HM0 hj0 HN1
        go_wp2_with fail
        refine wp_region_held_drew (S := (fun wx => Below w2.heap.size w2 wx)) (by kernel_rfl) hbel2.drew (fun hS0 => ?_)
        clear hbel2
        refine wpAnyH_take (i := 0) (oi := { dst := some 63, op := Op.move (Operand.tmp 11), type := 3, pos := "law.go:163", after := #[], guard := none }) (v := .int .i64 (i : Int)) rfl (by kernel_rfl) (by kernel_rfl) (by kernel_rfl) (fun _ _ _ h => h) (Or.inl ⟨by rfl, by intro w hSw; go_simp⟩) hS0 ?_
        try simp only [Act.put, List.setIfInBounds_toArray, List.set_cons_zero, List.set_cons_succ]
        refine wpAnyH_take (i := 1) (oi := { dst := some 64, op := Op.move (Operand.tmp 7), type := 22, pos := "law.go:163", after := #[], guard := none }) (v := .slice (some ⟨ga, oa, none⟩) na ca) rfl (by kernel_rfl) (by kernel_rfl) (by kernel_rfl) (fun _ _ _ h => h) (Or.inl ⟨by rfl, by intro w hSw; go_simp⟩) hS0 ?_
        try simp only [Act.put, List.setIfInBounds_toArray, List.set_cons_zero, List.set_cons_succ]
        refine wpAnyH_take (i := 2) (oi := { dst := some 65, op := Op.call { callee := Callee.builtin Builtin.len, args := #[Operand.tmp 64], argTypes := #[22] }, type := 3, pos := "law.go:163", after := #[{ on := 1, ground := Ground.data }], guard := none }) (v := .int .i64 (na : Int)) rfl (by kernel_rfl) (by kernel_rfl) (by kernel_rfl) (fun _ _ _ h => h) (Or.inl ⟨by rfl, by intro w hSw; go_simp⟩) hS0 ?_
        try simp only [Act.put, List.setIfInBounds_toArray, List.set_cons_zero, List.set_cons_succ]
        refine wpAnyH_take (i := 3) (oi := { dst := some 66, op := Op.binOp BinOp.geq 3 (Operand.tmp 63) (Operand.tmp 65) 3, type := 4, pos := "law.go:163", after := #[{ on := 0, ground := Ground.data }, { on := 2, ground := Ground.data }], guard := none }) (v := .bool false) rfl (by kernel_rfl) (by kernel_rfl) (by kernel_rfl) (fun _ _ _ h => h) (Or.inl ⟨by rfl, by intro w hSw; go_simp⟩) hS0 ?_
        try simp only [Act.put, List.setIfInBounds_toArray, List.set_cons_zero, List.set_cons_succ]
        refine wpAnyH_take (i := 4) (oi := { dst := some 67, op := Op.move (Operand.tmp 66), type := 4, pos := "law.go:163", after := #[{ on := 3, ground := Ground.data }], guard := none }) (v := .bool false) rfl (by kernel_rfl) (by kernel_rfl) (by kernel_rfl) (fun _ _ _ h => h) (Or.inl ⟨by rfl, by intro w hSw; go_simp⟩) hS0 ?_
        try simp only [Act.put, List.setIfInBounds_toArray, List.set_cons_zero, List.set_cons_succ]
        refine wpAnyH_take (i := 5) (oi := { dst := some 68, op := Op.move (Operand.tmp 7), type := 22, pos := "law.go:163", after := #[{ on := 4, ground := Ground.guard }], guard := some (4, false) }) (v := .slice (some ⟨ga, oa, none⟩) na ca) rfl (by kernel_rfl) (by kernel_rfl) (by kernel_rfl) (fun _ _ _ h => h) (Or.inl ⟨by rfl, by intro w hSw; go_simp⟩) hS0 ?_
        try simp only [Act.put, List.setIfInBounds_toArray, List.set_cons_zero, List.set_cons_succ]
        refine wpAnyH_take (i := 6) (oi := { dst := some 69, op := Op.move (Operand.tmp 11), type := 3, pos := "law.go:163", after := #[{ on := 4, ground := Ground.guard }], guard := some (4, false) }) (v := .int .i64 (i : Int)) rfl (by kernel_rfl) (by kernel_rfl) (by kernel_rfl) (fun _ _ _ h => h) (Or.inl ⟨by rfl, by intro w hSw; go_simp⟩) hS0 ?_
        try simp only [Act.put, List.setIfInBounds_toArray, List.set_cons_zero, List.set_cons_succ]
        refine wpAnyH_take (i := 7) (oi := { dst := some 70, op := Op.move (Operand.tmp 11), type := 3, pos := "law.go:163", after := #[{ on := 4, ground := Ground.guard }], guard := some (4, false) }) (v := .int .i64 (i : Int)) rfl (by kernel_rfl) (by kernel_rfl) (by kernel_rfl) (fun _ _ _ h => h) (Or.inl ⟨by rfl, by intro w hSw; go_simp⟩) hS0 ?_
        try simp only [Act.put, List.setIfInBounds_toArray, List.set_cons_zero, List.set_cons_succ]
        refine wpAnyH_take (i := 8) (oi := { dst := some 71, op := Op.binOp BinOp.add 3 (Operand.tmp 70) (Operand.const (Value.int IntKind.i64 1)) 3, type := 3, pos := "law.go:163", after := #[{ on := 7, ground := Ground.data }, { on := 4, ground := Ground.guard }], guard := some (4, false) }) (v := .int .i64 (j1 : Int)) rfl (by kernel_rfl) (by kernel_rfl) (by kernel_rfl) (fun _ _ _ h => h) (Or.inl ⟨by rfl, by intro w hSw; go_simp⟩) hS0 ?_
        try simp only [Act.put, List.setIfInBounds_toArray, List.set_cons_zero, List.set_cons_succ]
        refine wpAnyH_take (i := 9) (oi := { dst := some 72, op := Op.slice 22 (Operand.tmp 68) (some (Operand.tmp 69)) (some (Operand.tmp 71)) none, type := 22, pos := "law.go:163", after := #[{ on := 5, ground := Ground.data }, { on := 6, ground := Ground.data }, { on := 8, ground := Ground.data }, { on := 4, ground := Ground.guard }], guard := some (4, false) }) (v := .slice (some ⟨ga, oa + i * 4, none⟩) 1 (ca - i)) rfl (by kernel_rfl) (by kernel_rfl) (by kernel_rfl) (fun _ _ _ h => h) (Or.inl ⟨by rfl, by intro w hSw; go_simp⟩) hS0 ?_
        try simp only [Act.put, List.setIfInBounds_toArray, List.set_cons_zero, List.set_cons_succ]
        refine wpAnyH_take (i := 10) (oi := { dst := some 73, op := Op.move (Operand.tmp 0), type := 22, pos := "law.go:163", after := #[{ on := 4, ground := Ground.guard }], guard := some (4, false) }) (v := .slice (some ⟨gl, ol, none⟩) n cl) rfl (by kernel_rfl) (by kernel_rfl) (by kernel_rfl) (fun _ _ _ h => h) (Or.inl ⟨by rfl, by intro w hSw; go_simp⟩) hS0 ?_
        try simp only [Act.put, List.setIfInBounds_toArray, List.set_cons_zero, List.set_cons_succ]
        refine wpAnyH_take (i := 11) (oi := { dst := some 74, op := Op.move (Operand.tmp 14), type := 3, pos := "law.go:163", after := #[{ on := 4, ground := Ground.guard }], guard := some (4, false) }) (v := .int .i64 (N : Int)) rfl (by kernel_rfl) (by kernel_rfl) (by kernel_rfl) (fun _ _ _ h => h) (Or.inl ⟨by rfl, by intro w hSw; go_simp⟩) hS0 ?_
        try simp only [Act.put, List.setIfInBounds_toArray, List.set_cons_zero, List.set_cons_succ]
        refine wpAnyH_take (i := 12) (oi := { dst := some 75, op := Op.move (Operand.tmp 14), type := 3, pos := "law.go:163", after := #[{ on := 4, ground := Ground.guard }], guard := some (4, false) }) (v := .int .i64 (N : Int)) rfl (by kernel_rfl) (by kernel_rfl) (by kernel_rfl) (fun _ _ _ h => h) (Or.inl ⟨by rfl, by intro w hSw; go_simp⟩) hS0 ?_
        try simp only [Act.put, List.setIfInBounds_toArray, List.set_cons_zero, List.set_cons_succ]
        refine wpAnyH_take (i := 13) (oi := { dst := some 76, op := Op.binOp BinOp.add 3 (Operand.tmp 75) (Operand.const (Value.int IntKind.i64 1)) 3, type := 3, pos := "law.go:163", after := #[{ on := 12, ground := Ground.data }, { on := 4, ground := Ground.guard }], guard := some (4, false) }) (v := .int .i64 (N1 : Int)) rfl (by kernel_rfl) (by kernel_rfl) (by kernel_rfl) (fun _ _ _ h => h) (Or.inl ⟨by rfl, by intro w hSw; go_simp⟩) hS0 ?_
        try simp only [Act.put, List.setIfInBounds_toArray, List.set_cons_zero, List.set_cons_succ]
        refine wpAnyH_take (i := 14) (oi := { dst := some 77, op := Op.slice 22 (Operand.tmp 73) (some (Operand.tmp 74)) (some (Operand.tmp 76)) none, type := 22, pos := "law.go:163", after := #[{ on := 10, ground := Ground.data }, { on := 11, ground := Ground.data }, { on := 13, ground := Ground.data }, { on := 4, ground := Ground.guard }], guard := some (4, false) }) (v := .slice (some ⟨gl, ol + N * 4, none⟩) 1 (cl - N)) rfl (by kernel_rfl) (by kernel_rfl) (by kernel_rfl) (fun _ _ _ h => h) (Or.inl ⟨by rfl, by intro w hSw; go_simp⟩) hS0 ?_
        try simp only [Act.put, List.setIfInBounds_toArray, List.set_cons_zero, List.set_cons_succ]
        refine wpAnyH_ready (rs := [15]) (by kernel_rfl) (by simp) ?_
        refine AllReadyH.cons (o := { dst := some 78, op := Op.call { callee := Callee.value (Operand.func 9), args := #[Operand.tmp 72, Operand.tmp 77], argTypes := #[22, 22] }, type := 4, pos := "law.go:163", after := #[{ on := 9, ground := Ground.data }, { on := 14, ground := Ground.data }, { on := 4, ground := Ground.chain }, { on := 4, ground := Ground.guard }], guard := some (4, false) }) rfl (fun K hK => ?_) AllReadyH.nil
        go_simp
        go_at_call 9
        (with_reducible refine kc.mono ?_)
        clear kc
        rintro e w9 ⟨rfl, hb9⟩
        have hS9 : Below w2.heap.size w2 w9 := hS0.next hb9
        clear hb9
        go_simp
        refine hK.out _ _ hS9 (fun _ => ?_)
        clear hK K
        try simp only [Act.put, List.setIfInBounds_toArray, List.set_cons_zero, List.set_cons_succ]
        refine wpAnyH_take (i := 16) (oi := { dst := some 79, op := Op.unOp UnOp.not 4 (Operand.tmp 78), type := 4, pos := "law.go:163", after := #[{ on := 15, ground := Ground.data }, { on := 4, ground := Ground.guard }], guard := some (4, false) }) (v := .bool false) rfl (by kernel_rfl) (by kernel_rfl) (by kernel_rfl) (fun _ _ _ h => h) (Or.inl ⟨by rfl, by intro w hSw; go_simp⟩) hS9 ?_
        try simp only [Act.put, List.setIfInBounds_toArray, List.set_cons_zero, List.set_cons_succ]
        refine wpAnyH_take (i := 17) (oi := { dst := some 80, op := Op.pick (Operand.tmp 67) (Operand.const (Value.bool true)) (Operand.tmp 79), type := 4, pos := "law.go:163", after := #[{ on := 4, ground := Ground.data }, { on := 16, ground := Ground.data }], guard := none }) (v := .bool false) rfl (by kernel_rfl) (by kernel_rfl) (by kernel_rfl) (fun _ _ _ h => h) (Or.inl ⟨by rfl, by intro w hSw; go_simp⟩) hS9 ?_
        try simp only [Act.put, List.setIfInBounds_toArray, List.set_cons_zero, List.set_cons_succ]
        refine wpAnyH_done (by kernel_rfl) ?_ _
        clear hj1 hN1
        have hc9 := (hS9.cell (World.block_lt_of_cell? w2 _ HC0.out)).trans HC0.out
        go_wp2_with fail
        exact ⟨⟨N + 1, by omega, HI.out, HK.out, HMM.out, by push_cast; rfl, hS9⟩, by simp [intOf]; omega⟩
      · by_cases h2 : tl ≤ later
        · skip
          obtain ⟨hj, hX⟩ := cB_at (now := now) hNl (by rw [← HT.out]; exact h1)
          have hA3 := HB2.out.mono hbel2
          obtain ⟨gb, ob, rfl, _, _⟩ := Cs.at4 hA3 (Nat.lt_of_le_of_lt (Nat.zero_le _) hj)
          have hin : k < nb := by rw [HK0.out, HNB.out]; exact hj
          have hic : k < cb := by omega
          have hXc := Cs.cut1 (hA3.mono (Below.refl _ _).drew) hj (by rw [← HK0.out]; exact hic)
          rw [hX] at hXc
          rw [← HK0.out] at hXc
          have kc := keepCalls_any wr.drew _ _ [l[N]] [l[N]] hXc hLc (by simp)
          rw [decide_eq_true (rfl : [l[N]] = [l[N]])] at kc
          have HI : Hid (Value.int .i64 (i : Int) = .int .i64 ((cA now l (N + 1) : Nat) : Int)) := by show _ = _; rw [cA_no hNl (by rw [← HT.out]; exact h1), ← HI0.out]
          have HK : Hid (Value.int .i64 ((k : Int) + 1) = .int .i64 ((cB now l (N + 1) : Nat) : Int)) := by show _ = _; rw [cB_yes hNl (by rw [← HT.out]; exact h1), ← HK0.out]; push_cast; rfl
          have HMM : Hid (Value.int .i64 ((m : Int) + 1) = .int .i64 ((cA later l (N + 1) : Nat) : Int)) := by show _ = _; rw [cA_yes hNl (by rw [← HT.out]; exact h2), ← HM0.out]; push_cast; rfl
          have hii : decide (nb ≤ k) = false := by simp; omega
          have hj9 : k ≤ 300 := by omega
          obtain ⟨j1, hj0⟩ : ∃ j1, j1 = k + 1 := ⟨_, rfl⟩
          have hjs : j1 - k = 1 ∧ k ≤ j1 ∧ j1 ≤ cb := by omega
          have hNs : N1 - N = 1 ∧ N ≤ N1 ∧ N1 ≤ cl := by have := HN1.out; omega
          have hne : ¬ cb = k ∧ ¬ cl = N := by omega
          have h1d : decide (tl ≤ now) = false := by simp; omega
          have hj1 : IntKind.i64.wrap ((k : Int) + 1) = (j1 : Int) := by rw [IntWalk.i64_in _ (by omega)]; omega
          have hN1 : IntKind.i64.wrap ((N : Int) + 1) = (N1 : Int) := by have := HN1.out; rw [IntWalk.i64_in _ (by omega)]; omega
          clear hA3 hj hX hXc hLc HI0 HK0 HM0 hj0 HN1
          go_wp2_with fail
          refine wp_region_held_drew (S := (fun wx => Below w2.heap.size w2 wx)) (by kernel_rfl) hbel2.drew (fun hS0 => ?_)
          clear hbel2
          refine wpAnyH_take (i := 0) (oi := { dst := some 83, op := Op.move (Operand.tmp 12), type := 3, pos := "law.go:168", after := #[], guard := none }) (v := .int .i64 (k : Int)) rfl (by kernel_rfl) (by kernel_rfl) (by kernel_rfl) (fun _ _ _ h => h) (Or.inl ⟨by rfl, by intro w hSw; go_simp⟩) hS0 ?_
          try simp only [Act.put, List.setIfInBounds_toArray, List.set_cons_zero, List.set_cons_succ]
          refine wpAnyH_take (i := 1) (oi := { dst := some 84, op := Op.move (Operand.tmp 8), type := 22, pos := "law.go:168", after := #[], guard := none }) (v := .slice (some ⟨gb, ob, none⟩) nb cb) rfl (by kernel_rfl) (by kernel_rfl) (by kernel_rfl) (fun _ _ _ h => h) (Or.inl ⟨by rfl, by intro w hSw; go_simp⟩) hS0 ?_
          try simp only [Act.put, List.setIfInBounds_toArray, List.set_cons_zero, List.set_cons_succ]
          refine wpAnyH_take (i := 2) (oi := { dst := some 85, op := Op.call { callee := Callee.builtin Builtin.len, args := #[Operand.tmp 84], argTypes := #[22] }, type := 3, pos := "law.go:168", after := #[{ on := 1, ground := Ground.data }], guard := none }) (v := .int .i64 (nb : Int)) rfl (by kernel_rfl) (by kernel_rfl) (by kernel_rfl) (fun _ _ _ h => h) (Or.inl ⟨by rfl, by intro w hSw; go_simp⟩) hS0 ?_
          try simp only [Act.put, List.setIfInBounds_toArray, List.set_cons_zero, List.set_cons_succ]
          refine wpAnyH_take (i := 3) (oi := { dst := some 86, op := Op.binOp BinOp.geq 3 (Operand.tmp 83) (Operand.tmp 85) 3, type := 4, pos := "law.go:168", after := #[{ on := 0, ground := Ground.data }, { on := 2, ground := Ground.data }], guard := none }) (v := .bool false) rfl (by kernel_rfl) (by kernel_rfl) (by kernel_rfl) (fun _ _ _ h => h) (Or.inl ⟨by rfl, by intro w hSw; go_simp⟩) hS0 ?_
          try simp only [Act.put, List.setIfInBounds_toArray, List.set_cons_zero, List.set_cons_succ]
          refine wpAnyH_take (i := 4) (oi := { dst := some 87, op := Op.move (Operand.tmp 86), type := 4, pos := "law.go:168", after := #[{ on := 3, ground := Ground.data }], guard := none }) (v := .bool false) rfl (by kernel_rfl) (by kernel_rfl) (by kernel_rfl) (fun _ _ _ h => h) (Or.inl ⟨by rfl, by intro w hSw; go_simp⟩) hS0 ?_
          try simp only [Act.put, List.setIfInBounds_toArray, List.set_cons_zero, List.set_cons_succ]
          refine wpAnyH_take (i := 5) (oi := { dst := some 88, op := Op.move (Operand.tmp 8), type := 22, pos := "law.go:168", after := #[{ on := 4, ground := Ground.guard }], guard := some (4, false) }) (v := .slice (some ⟨gb, ob, none⟩) nb cb) rfl (by kernel_rfl) (by kernel_rfl) (by kernel_rfl) (fun _ _ _ h => h) (Or.inl ⟨by rfl, by intro w hSw; go_simp⟩) hS0 ?_
          try simp only [Act.put, List.setIfInBounds_toArray, List.set_cons_zero, List.set_cons_succ]
          refine wpAnyH_take (i := 6) (oi := { dst := some 89, op := Op.move (Operand.tmp 12), type := 3, pos := "law.go:168", after := #[{ on := 4, ground := Ground.guard }], guard := some (4, false) }) (v := .int .i64 (k : Int)) rfl (by kernel_rfl) (by kernel_rfl) (by kernel_rfl) (fun _ _ _ h => h) (Or.inl ⟨by rfl, by intro w hSw; go_simp⟩) hS0 ?_
          try simp only [Act.put, List.setIfInBounds_toArray, List.set_cons_zero, List.set_cons_succ]
          refine wpAnyH_take (i := 7) (oi := { dst := some 90, op := Op.move (Operand.tmp 12), type := 3, pos := "law.go:168", after := #[{ on := 4, ground := Ground.guard }], guard := some (4, false) }) (v := .int .i64 (k : Int)) rfl (by kernel_rfl) (by kernel_rfl) (by kernel_rfl) (fun _ _ _ h => h) (Or.inl ⟨by rfl, by intro w hSw; go_simp⟩) hS0 ?_
          try simp only [Act.put, List.setIfInBounds_toArray, List.set_cons_zero, List.set_cons_succ]
          refine wpAnyH_take (i := 8) (oi := { dst := some 91, op := Op.binOp BinOp.add 3 (Operand.tmp 90) (Operand.const (Value.int IntKind.i64 1)) 3, type := 3, pos := "law.go:168", after := #[{ on := 7, ground := Ground.data }, { on := 4, ground := Ground.guard }], guard := some (4, false) }) (v := .int .i64 (j1 : Int)) rfl (by kernel_rfl) (by kernel_rfl) (by kernel_rfl) (fun _ _ _ h => h) (Or.inl ⟨by rfl, by intro w hSw; go_simp⟩) hS0 ?_
          try simp only [Act.put, List.setIfInBounds_toArray, List.set_cons_zero, List.set_cons_succ]
          refine wpAnyH_take (i := 9) (oi := { dst := some 92, op := Op.slice 22 (Operand.tmp 88) (some (Operand.tmp 89)) (some (Operand.tmp 91)) none, type := 22, pos := "law.go:168", after := #[{ on := 5, ground := Ground.data }, { on := 6, ground := Ground.data }, { on := 8, ground := Ground.data }, { on := 4, ground := Ground.guard }], guard := some (4, false) }) (v := .slice (some ⟨gb, ob + k * 4, none⟩) 1 (cb - k)) rfl (by kernel_rfl) (by kernel_rfl) (by kernel_rfl) (fun _ _ _ h => h) (Or.inl ⟨by rfl, by intro w hSw; go_simp⟩) hS0 ?_
          try simp only [Act.put, List.setIfInBounds_toArray, List.set_cons_zero, List.set_cons_succ]
          refine wpAnyH_take (i := 10) (oi := { dst := some 93, op := Op.move (Operand.tmp 0), type := 22, pos := "law.go:168", after := #[{ on := 4, ground := Ground.guard }], guard := some (4, false) }) (v := .slice (some ⟨gl, ol, none⟩) n cl) rfl (by kernel_rfl) (by kernel_rfl) (by kernel_rfl) (fun _ _ _ h => h) (Or.inl ⟨by rfl, by intro w hSw; go_simp⟩) hS0 ?_
          try simp only [Act.put, List.setIfInBounds_toArray, List.set_cons_zero, List.set_cons_succ]
          refine wpAnyH_take (i := 11) (oi := { dst := some 94, op := Op.move (Operand.tmp 14), type := 3, pos := "law.go:168", after := #[{ on := 4, ground := Ground.guard }], guard := some (4, false) }) (v := .int .i64 (N : Int)) rfl (by kernel_rfl) (by kernel_rfl) (by kernel_rfl) (fun _ _ _ h => h) (Or.inl ⟨by rfl, by intro w hSw; go_simp⟩) hS0 ?_
          try simp only [Act.put, List.setIfInBounds_toArray, List.set_cons_zero, List.set_cons_succ]
          refine wpAnyH_take (i := 12) (oi := { dst := some 95, op := Op.move (Operand.tmp 14), type := 3, pos := "law.go:168", after := #[{ on := 4, ground := Ground.guard }], guard := some (4, false) }) (v := .int .i64 (N : Int)) rfl (by kernel_rfl) (by kernel_rfl) (by kernel_rfl) (fun _ _ _ h => h) (Or.inl ⟨by rfl, by intro w hSw; go_simp⟩) hS0 ?_
          try simp only [Act.put, List.setIfInBounds_toArray, List.set_cons_zero, List.set_cons_succ]
          refine wpAnyH_take (i := 13) (oi := { dst := some 96, op := Op.binOp BinOp.add 3 (Operand.tmp 95) (Operand.const (Value.int IntKind.i64 1)) 3, type := 3, pos := "law.go:168", after := #[{ on := 12, ground := Ground.data }, { on := 4, ground := Ground.guard }], guard := some (4, false) }) (v := .int .i64 (N1 : Int)) rfl (by kernel_rfl) (by kernel_rfl) (by kernel_rfl) (fun _ _ _ h => h) (Or.inl ⟨by rfl, by intro w hSw; go_simp⟩) hS0 ?_
          try simp only [Act.put, List.setIfInBounds_toArray, List.set_cons_zero, List.set_cons_succ]
          refine wpAnyH_take (i := 14) (oi := { dst := some 97, op := Op.slice 22 (Operand.tmp 93) (some (Operand.tmp 94)) (some (Operand.tmp 96)) none, type := 22, pos := "law.go:168", after := #[{ on := 10, ground := Ground.data }, { on := 11, ground := Ground.data }, { on := 13, ground := Ground.data }, { on := 4, ground := Ground.guard }], guard := some (4, false) }) (v := .slice (some ⟨gl, ol + N * 4, none⟩) 1 (cl - N)) rfl (by kernel_rfl) (by kernel_rfl) (by kernel_rfl) (fun _ _ _ h => h) (Or.inl ⟨by rfl, by intro w hSw; go_simp⟩) hS0 ?_
          try simp only [Act.put, List.setIfInBounds_toArray, List.set_cons_zero, List.set_cons_succ]
          refine wpAnyH_ready (rs := [15]) (by kernel_rfl) (by simp) ?_
          refine AllReadyH.cons (o := { dst := some 98, op := Op.call { callee := Callee.value (Operand.func 9), args := #[Operand.tmp 92, Operand.tmp 97], argTypes := #[22, 22] }, type := 4, pos := "law.go:168", after := #[{ on := 9, ground := Ground.data }, { on := 14, ground := Ground.data }, { on := 4, ground := Ground.chain }, { on := 4, ground := Ground.guard }], guard := some (4, false) }) rfl (fun K hK => ?_) AllReadyH.nil
          go_simp
          go_at_call 9
          (with_reducible refine kc.mono ?_)
          clear kc
          rintro e w9 ⟨rfl, hb9⟩
          have hS9 : Below w2.heap.size w2 w9 := hS0.next hb9
          clear hb9
          go_simp
          refine hK.out _ _ hS9 (fun _ => ?_)
          clear hK K
          try simp only [Act.put, List.setIfInBounds_toArray, List.set_cons_zero, List.set_cons_succ]
          refine wpAnyH_take (i := 16) (oi := { dst := some 99, op := Op.unOp UnOp.not 4 (Operand.tmp 98), type := 4, pos := "law.go:168", after := #[{ on := 15, ground := Ground.data }, { on := 4, ground := Ground.guard }], guard := some (4, false) }) (v := .bool false) rfl (by kernel_rfl) (by kernel_rfl) (by kernel_rfl) (fun _ _ _ h => h) (Or.inl ⟨by rfl, by intro w hSw; go_simp⟩) hS9 ?_
          try simp only [Act.put, List.setIfInBounds_toArray, List.set_cons_zero, List.set_cons_succ]
          refine wpAnyH_take (i := 17) (oi := { dst := some 100, op := Op.pick (Operand.tmp 87) (Operand.const (Value.bool true)) (Operand.tmp 99), type := 4, pos := "law.go:168", after := #[{ on := 4, ground := Ground.data }, { on := 16, ground := Ground.data }], guard := none }) (v := .bool false) rfl (by kernel_rfl) (by kernel_rfl) (by kernel_rfl) (fun _ _ _ h => h) (Or.inl ⟨by rfl, by intro w hSw; go_simp⟩) hS9 ?_
          try simp only [Act.put, List.setIfInBounds_toArray, List.set_cons_zero, List.set_cons_succ]
          refine wpAnyH_done (by kernel_rfl) ?_ _
          clear hj1 hN1
          have hc9 := (hS9.cell (World.block_lt_of_cell? w2 _ HC0.out)).trans HC0.out
          go_wp2_with fail
          exact ⟨⟨N + 1, by omega, HI.out, HK.out, HMM.out, by push_cast; rfl, hS9⟩, by simp [intOf]; omega⟩
        · skip
          obtain ⟨hj, hX⟩ := cB_at (now := now) hNl (by rw [← HT.out]; exact h1)
          have hA3 := HB2.out.mono hbel2
          obtain ⟨gb, ob, rfl, _, _⟩ := Cs.at4 hA3 (Nat.lt_of_le_of_lt (Nat.zero_le _) hj)
          have hin : k < nb := by rw [HK0.out, HNB.out]; exact hj
          have hic : k < cb := by omega
          have hXc := Cs.cut1 (hA3.mono (Below.refl _ _).drew) hj (by rw [← HK0.out]; exact hic)
          rw [hX] at hXc
          rw [← HK0.out] at hXc
          have kc := keepCalls_any wr.drew _ _ [l[N]] [l[N]] hXc hLc (by simp)
          rw [decide_eq_true (rfl : [l[N]] = [l[N]])] at kc
          have HI : Hid (Value.int .i64 (i : Int) = .int .i64 ((cA now l (N + 1) : Nat) : Int)) := by show _ = _; rw [cA_no hNl (by rw [← HT.out]; exact h1), ← HI0.out]
          have HK : Hid (Value.int .i64 ((k : Int) + 1) = .int .i64 ((cB now l (N + 1) : Nat) : Int)) := by show _ = _; rw [cB_yes hNl (by rw [← HT.out]; exact h1), ← HK0.out]; push_cast; rfl
          have HMM : Hid (Value.int .i64 (m : Int) = .int .i64 ((cA later l (N + 1) : Nat) : Int)) := by show _ = _; rw [cA_no hNl (by rw [← HT.out]; exact h2), ← HM0.out]
          have hii : decide (nb ≤ k) = false := by simp; omega
          have hj9 : k ≤ 300 := by omega
          obtain ⟨j1, hj0⟩ : ∃ j1, j1 = k + 1 := ⟨_, rfl⟩
          have hjs : j1 - k = 1 ∧ k ≤ j1 ∧ j1 ≤ cb := by omega
          have hNs : N1 - N = 1 ∧ N ≤ N1 ∧ N1 ≤ cl := by have := HN1.out; omega
          have hne : ¬ cb = k ∧ ¬ cl = N := by omega
          have h1d : decide (tl ≤ now) = false := by simp; omega
          have h2d : decide (tl ≤ later) = false := by simp; omega
          have hj1 : IntKind.i64.wrap ((k : Int) + 1) = (j1 : Int) := by rw [IntWalk.i64_in _ (by omega)]; omega
          have hN1 : IntKind.i64.wrap ((N : Int) + 1) = (N1 : Int) := by have := HN1.out; rw [IntWalk.i64_in _ (by omega)]; omega
          clear hA3 hj hX hXc hLc HI0 HK0 HM0 hj0 HN1
          go_wp2_with fail
          refine wp_region_held_drew (S := (fun wx => Below w2.heap.size w2 wx)) (by kernel_rfl) hbel2.drew (fun hS0 => ?_)
          clear hbel2
          refine wpAnyH_take (i := 0) (oi := { dst := some 83, op := Op.move (Operand.tmp 12), type := 3, pos := "law.go:168", after := #[], guard := none }) (v := .int .i64 (k : Int)) rfl (by kernel_rfl) (by kernel_rfl) (by kernel_rfl) (fun _ _ _ h => h) (Or.inl ⟨by rfl, by intro w hSw; go_simp⟩) hS0 ?_
          try simp only [Act.put, List.setIfInBounds_toArray, List.set_cons_zero, List.set_cons_succ]
          refine wpAnyH_take (i := 1) (oi := { dst := some 84, op := Op.move (Operand.tmp 8), type := 22, pos := "law.go:168", after := #[], guard := none }) (v := .slice (some ⟨gb, ob, none⟩) nb cb) rfl (by kernel_rfl) (by kernel_rfl) (by kernel_rfl) (fun _ _ _ h => h) (Or.inl ⟨by rfl, by intro w hSw; go_simp⟩) hS0 ?_
          try simp only [Act.put, List.setIfInBounds_toArray, List.set_cons_zero, List.set_cons_succ]
          refine wpAnyH_take (i := 2) (oi := { dst := some 85, op := Op.call { callee := Callee.builtin Builtin.len, args := #[Operand.tmp 84], argTypes := #[22] }, type := 3, pos := "law.go:168", after := #[{ on := 1, ground := Ground.data }], guard := none }) (v := .int .i64 (nb : Int)) rfl (by kernel_rfl) (by kernel_rfl) (by kernel_rfl) (fun _ _ _ h => h) (Or.inl ⟨by rfl, by intro w hSw; go_simp⟩) hS0 ?_
          try simp only [Act.put, List.setIfInBounds_toArray, List.set_cons_zero, List.set_cons_succ]
          refine wpAnyH_take (i := 3) (oi := { dst := some 86, op := Op.binOp BinOp.geq 3 (Operand.tmp 83) (Operand.tmp 85) 3, type := 4, pos := "law.go:168", after := #[{ on := 0, ground := Ground.data }, { on := 2, ground := Ground.data }], guard := none }) (v := .bool false) rfl (by kernel_rfl) (by kernel_rfl) (by kernel_rfl) (fun _ _ _ h => h) (Or.inl ⟨by rfl, by intro w hSw; go_simp⟩) hS0 ?_
          try simp only [Act.put, List.setIfInBounds_toArray, List.set_cons_zero, List.set_cons_succ]
          refine wpAnyH_take (i := 4) (oi := { dst := some 87, op := Op.move (Operand.tmp 86), type := 4, pos := "law.go:168", after := #[{ on := 3, ground := Ground.data }], guard := none }) (v := .bool false) rfl (by kernel_rfl) (by kernel_rfl) (by kernel_rfl) (fun _ _ _ h => h) (Or.inl ⟨by rfl, by intro w hSw; go_simp⟩) hS0 ?_
          try simp only [Act.put, List.setIfInBounds_toArray, List.set_cons_zero, List.set_cons_succ]
          refine wpAnyH_take (i := 5) (oi := { dst := some 88, op := Op.move (Operand.tmp 8), type := 22, pos := "law.go:168", after := #[{ on := 4, ground := Ground.guard }], guard := some (4, false) }) (v := .slice (some ⟨gb, ob, none⟩) nb cb) rfl (by kernel_rfl) (by kernel_rfl) (by kernel_rfl) (fun _ _ _ h => h) (Or.inl ⟨by rfl, by intro w hSw; go_simp⟩) hS0 ?_
          try simp only [Act.put, List.setIfInBounds_toArray, List.set_cons_zero, List.set_cons_succ]
          refine wpAnyH_take (i := 6) (oi := { dst := some 89, op := Op.move (Operand.tmp 12), type := 3, pos := "law.go:168", after := #[{ on := 4, ground := Ground.guard }], guard := some (4, false) }) (v := .int .i64 (k : Int)) rfl (by kernel_rfl) (by kernel_rfl) (by kernel_rfl) (fun _ _ _ h => h) (Or.inl ⟨by rfl, by intro w hSw; go_simp⟩) hS0 ?_
          try simp only [Act.put, List.setIfInBounds_toArray, List.set_cons_zero, List.set_cons_succ]
          refine wpAnyH_take (i := 7) (oi := { dst := some 90, op := Op.move (Operand.tmp 12), type := 3, pos := "law.go:168", after := #[{ on := 4, ground := Ground.guard }], guard := some (4, false) }) (v := .int .i64 (k : Int)) rfl (by kernel_rfl) (by kernel_rfl) (by kernel_rfl) (fun _ _ _ h => h) (Or.inl ⟨by rfl, by intro w hSw; go_simp⟩) hS0 ?_
          try simp only [Act.put, List.setIfInBounds_toArray, List.set_cons_zero, List.set_cons_succ]
          refine wpAnyH_take (i := 8) (oi := { dst := some 91, op := Op.binOp BinOp.add 3 (Operand.tmp 90) (Operand.const (Value.int IntKind.i64 1)) 3, type := 3, pos := "law.go:168", after := #[{ on := 7, ground := Ground.data }, { on := 4, ground := Ground.guard }], guard := some (4, false) }) (v := .int .i64 (j1 : Int)) rfl (by kernel_rfl) (by kernel_rfl) (by kernel_rfl) (fun _ _ _ h => h) (Or.inl ⟨by rfl, by intro w hSw; go_simp⟩) hS0 ?_
          try simp only [Act.put, List.setIfInBounds_toArray, List.set_cons_zero, List.set_cons_succ]
          refine wpAnyH_take (i := 9) (oi := { dst := some 92, op := Op.slice 22 (Operand.tmp 88) (some (Operand.tmp 89)) (some (Operand.tmp 91)) none, type := 22, pos := "law.go:168", after := #[{ on := 5, ground := Ground.data }, { on := 6, ground := Ground.data }, { on := 8, ground := Ground.data }, { on := 4, ground := Ground.guard }], guard := some (4, false) }) (v := .slice (some ⟨gb, ob + k * 4, none⟩) 1 (cb - k)) rfl (by kernel_rfl) (by kernel_rfl) (by kernel_rfl) (fun _ _ _ h => h) (Or.inl ⟨by rfl, by intro w hSw; go_simp⟩) hS0 ?_
          try simp only [Act.put, List.setIfInBounds_toArray, List.set_cons_zero, List.set_cons_succ]
          refine wpAnyH_take (i := 10) (oi := { dst := some 93, op := Op.move (Operand.tmp 0), type := 22, pos := "law.go:168", after := #[{ on := 4, ground := Ground.guard }], guard := some (4, false) }) (v := .slice (some ⟨gl, ol, none⟩) n cl) rfl (by kernel_rfl) (by kernel_rfl) (by kernel_rfl) (fun _ _ _ h => h) (Or.inl ⟨by rfl, by intro w hSw; go_simp⟩) hS0 ?_
          try simp only [Act.put, List.setIfInBounds_toArray, List.set_cons_zero, List.set_cons_succ]
          refine wpAnyH_take (i := 11) (oi := { dst := some 94, op := Op.move (Operand.tmp 14), type := 3, pos := "law.go:168", after := #[{ on := 4, ground := Ground.guard }], guard := some (4, false) }) (v := .int .i64 (N : Int)) rfl (by kernel_rfl) (by kernel_rfl) (by kernel_rfl) (fun _ _ _ h => h) (Or.inl ⟨by rfl, by intro w hSw; go_simp⟩) hS0 ?_
          try simp only [Act.put, List.setIfInBounds_toArray, List.set_cons_zero, List.set_cons_succ]
          refine wpAnyH_take (i := 12) (oi := { dst := some 95, op := Op.move (Operand.tmp 14), type := 3, pos := "law.go:168", after := #[{ on := 4, ground := Ground.guard }], guard := some (4, false) }) (v := .int .i64 (N : Int)) rfl (by kernel_rfl) (by kernel_rfl) (by kernel_rfl) (fun _ _ _ h => h) (Or.inl ⟨by rfl, by intro w hSw; go_simp⟩) hS0 ?_
          try simp only [Act.put, List.setIfInBounds_toArray, List.set_cons_zero, List.set_cons_succ]
          refine wpAnyH_take (i := 13) (oi := { dst := some 96, op := Op.binOp BinOp.add 3 (Operand.tmp 95) (Operand.const (Value.int IntKind.i64 1)) 3, type := 3, pos := "law.go:168", after := #[{ on := 12, ground := Ground.data }, { on := 4, ground := Ground.guard }], guard := some (4, false) }) (v := .int .i64 (N1 : Int)) rfl (by kernel_rfl) (by kernel_rfl) (by kernel_rfl) (fun _ _ _ h => h) (Or.inl ⟨by rfl, by intro w hSw; go_simp⟩) hS0 ?_
          try simp only [Act.put, List.setIfInBounds_toArray, List.set_cons_zero, List.set_cons_succ]
          refine wpAnyH_take (i := 14) (oi := { dst := some 97, op := Op.slice 22 (Operand.tmp 93) (some (Operand.tmp 94)) (some (Operand.tmp 96)) none, type := 22, pos := "law.go:168", after := #[{ on := 10, ground := Ground.data }, { on := 11, ground := Ground.data }, { on := 13, ground := Ground.data }, { on := 4, ground := Ground.guard }], guard := some (4, false) }) (v := .slice (some ⟨gl, ol + N * 4, none⟩) 1 (cl - N)) rfl (by kernel_rfl) (by kernel_rfl) (by kernel_rfl) (fun _ _ _ h => h) (Or.inl ⟨by rfl, by intro w hSw; go_simp⟩) hS0 ?_
          try simp only [Act.put, List.setIfInBounds_toArray, List.set_cons_zero, List.set_cons_succ]
          refine wpAnyH_ready (rs := [15]) (by kernel_rfl) (by simp) ?_
          refine AllReadyH.cons (o := { dst := some 98, op := Op.call { callee := Callee.value (Operand.func 9), args := #[Operand.tmp 92, Operand.tmp 97], argTypes := #[22, 22] }, type := 4, pos := "law.go:168", after := #[{ on := 9, ground := Ground.data }, { on := 14, ground := Ground.data }, { on := 4, ground := Ground.chain }, { on := 4, ground := Ground.guard }], guard := some (4, false) }) rfl (fun K hK => ?_) AllReadyH.nil
          go_simp
          go_at_call 9
          (with_reducible refine kc.mono ?_)
          clear kc
          rintro e w9 ⟨rfl, hb9⟩
          have hS9 : Below w2.heap.size w2 w9 := hS0.next hb9
          clear hb9
          go_simp
          refine hK.out _ _ hS9 (fun _ => ?_)
          clear hK K
          try simp only [Act.put, List.setIfInBounds_toArray, List.set_cons_zero, List.set_cons_succ]
          refine wpAnyH_take (i := 16) (oi := { dst := some 99, op := Op.unOp UnOp.not 4 (Operand.tmp 98), type := 4, pos := "law.go:168", after := #[{ on := 15, ground := Ground.data }, { on := 4, ground := Ground.guard }], guard := some (4, false) }) (v := .bool false) rfl (by kernel_rfl) (by kernel_rfl) (by kernel_rfl) (fun _ _ _ h => h) (Or.inl ⟨by rfl, by intro w hSw; go_simp⟩) hS9 ?_
          try simp only [Act.put, List.setIfInBounds_toArray, List.set_cons_zero, List.set_cons_succ]
          refine wpAnyH_take (i := 17) (oi := { dst := some 100, op := Op.pick (Operand.tmp 87) (Operand.const (Value.bool true)) (Operand.tmp 99), type := 4, pos := "law.go:168", after := #[{ on := 4, ground := Ground.data }, { on := 16, ground := Ground.data }], guard := none }) (v := .bool false) rfl (by kernel_rfl) (by kernel_rfl) (by kernel_rfl) (fun _ _ _ h => h) (Or.inl ⟨by rfl, by intro w hSw; go_simp⟩) hS9 ?_
          try simp only [Act.put, List.setIfInBounds_toArray, List.set_cons_zero, List.set_cons_succ]
          refine wpAnyH_done (by kernel_rfl) ?_ _
          clear hj1 hN1
          have hc9 := (hS9.cell (World.block_lt_of_cell? w2 _ HC0.out)).trans HC0.out
          go_wp2_with fail
          exact ⟨⟨N + 1, by omega, HI.out, HK.out, HMM.out, by push_cast; rfl, hS9⟩, by simp [intOf]; omega⟩
    · have hNe : N = n := by omega
      subst hNe
      have hbe := HBE.out.next hbel2
      have hm : cA later l N = nc := by rw [HN.out, HNC.out]; exact cA_all later l
      rw [hm]
      clear hm
      go_wp2_with fail
      refine (wakes18_any _).mono ?_
      rintro e w3 ⟨rfl, hb3⟩
      have HBE2 := Lib.hid (hbe.next hb3)
      clear hb3 hbe
      go_wp2_with fail
      go_ret
      exact ⟨rfl, HBE2.out⟩
end Cam
