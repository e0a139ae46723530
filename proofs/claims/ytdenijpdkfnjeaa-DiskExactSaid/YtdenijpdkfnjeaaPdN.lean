import Derived.Test.YtdenijpdkfnjeaaPdC
/- the page's disk: New, Arm, Start; by one predicate with its blocks. -/
namespace Cam
open Go Go.RowKit Go.Proofs

theorem run_make_blocksT (w : World) (n : Nat) (hn : n ≤ 65536) : ∃ w', (Instr.makeSlice 53 (.int .i64 (n : Int)) (.int .i64 (n : Int))).run Try.prog w = .ok (.slice (some ⟨w.heap.size, 0, none⟩) n n) w' ∧ HT w' w.heap.size 29 (flatW bvs (List.replicate n zero64)) ∧ Below w.heap.size w w' := by
  obtain ⟨ht, ⟨i, z, hi, hz, hs, hby, hzs⟩, hp⟩ := elem_block
  have hz2 : z = .agg (bvs zero64).toArray := by
    have h : (Try.prog.info? 29).map (·.zero) = some (some (.agg (bvs zero64).toArray)) := by kernel_rfl
    rw [hi] at h
    simp only [Option.map_some, Option.some.injEq] at h
    rw [hz] at h
    simpa using h
  obtain ⟨w', hrun, hown, hg⟩ := run_make_full (P := Try.prog) w w.heap.size 53 29 i z 64 ht hi hz hs .i64 .i64 n (by rw [hby]; omega) (by unfold maxLen; omega) (Nat.le_refl _)
  refine ⟨w', hrun, ?_, (Below.refl _ _).grown hg (Nat.le_refl _) (fun k hk => by cases hk)⟩
  subst hz2
  rw [show (Value.agg (bvs zero64).toArray).cells = (bvs zero64).toArray from rfl, madeZeros] at hown
  obtain ⟨hl, h2⟩ := hown
  rcases h2 with ⟨e, _⟩ | ⟨g, cap, cur, e, _, hh, _, _, hsz, htk⟩
  · cases e
  · simp only [Value.slice.injEq, Option.some.injEq, Addr.mk.injEq] at e
    obtain ⟨⟨rfl, _⟩, _, rfl⟩ := e
    unfold HT
    rw [hh, ← htk, List.take_of_length_le (by simp [hsz])]
theorem make_blocksT {w : World} {ops : Array Oper} {rest : List Oper} {o : Oper} {a : Act} {Q : Exit → Act → World → Prop} (hgd : o.guard = none) (l c : Operand) (hop : o.op = Op.makeSlice 53 l c)
    (n : Nat) (hn : n ≤ 65536) (hl : a.eval l = .int .i64 (n : Int)) (hc : a.eval c = .int .i64 (n : Int))
    (h : ∀ w', HT w' w.heap.size 29 (flatW bvs (List.replicate n zero64)) → Below w.heap.size w w' → wpList Try.prog ops Q rest (a.put o.dst (.slice (some ⟨w.heap.size, 0, none⟩) n n)) w') :
    wpList Try.prog ops Q (o :: rest) a w := by
  refine wpList_plain hgd fun K' hK => ?_
  obtain ⟨w', hrun, h1, h2⟩ := run_make_blocksT w n hn
  unfold Oper.wp
  simp [execOp, hop, hl, hc, hrun, Result.andThen]
  exact hK _ _ (h w' h1 h2)

set_option maxRecDepth 100000 in
theorem pnew_any (w : World) (n : Nat) (h1 : 1 ≤ n) (h2 : n ≤ 65536) : Calls Try.prog 22 #[.int .i64 (n : Int)] w fun e w' => ∃ g gs, e = .returned (.pointer (some ⟨g, 0, none⟩)) ∧ PMem w' g gs (.slice none 0 0) n (DK.new n) ∧ w.heap.size ≤ g ∧ w.heap.size ≤ gs ∧ Below w.heap.size w w' := by
  have hn : (0 : Int) ≤ n ∧ (n : Int) ≤ 65536 := by omega
  go_enter Try.func22, Try.ntmps22
  go_wp2_with (first
    | (refine make_blocksT rfl (.tmp 4) (.tmp 4) rfl n h2 rfl rfl ?_; intro w1 hs1 hb1)
    | fail)
  go_ret
  have hb2 : Below w1.heap.size w1 (w1.alloc (.cells (pcells w.heap.size n (.slice none 0 0) (DK.new n)).toArray 56)) := (Below.refl _ _).alloc (Nat.le_refl _) _
  have hz : DOk n (DK.new n) := ⟨h2, ⟨by simp [DK.new], fun b hb => by simp only [DK.new, List.mem_replicate] at hb; rw [hb.2]; exact zero64_length⟩, ⟨by simp [DK.new], fun b hb => by simp only [DK.new, List.mem_replicate] at hb; rw [hb.2]; exact zero64_length⟩, (fun x hx => by simp [DK.new] at hx), by simp [DK.new], by simp [DK.new]⟩
  exact ⟨w1.heap.size, w.heap.size, rfl, ⟨HT.new, hs1.below hb2, OwnR.empty encW_len _ _ _, hz⟩, hb1.size, Nat.le_refl _, hb1.alloc hb1.size _⟩

theorem parm_any (w : World) (g gs : Nat) (vo : Value) (n : Nat) (D : DK) (h : PMem w g gs vo n D) (m : Int) (hm : m ≤ 9223372036854775807) :
    Calls Try.prog 29 #[.pointer (some ⟨g, 0, none⟩), .int .i64 m] w fun e w' => e = .returned (.tuple #[]) ∧ PMem w' g gs vo n (dArm D m) ∧ Kept (fun k => k = g) w w' := by
  obtain ⟨hc0, hc1, hc2, hc3, hc4, hc5⟩ := h.cells
  have hfz := h.hd.frozen
  obtain ⟨o, ho⟩ : ∃ o, o = D.off := ⟨_, rfl⟩
  rw [← ho] at hc3
  have HD : Hid (dArm D m = if o = true then D else { D with arm := max m 0 }) := by show _ = _; rw [ho]; rfl
  have Hh := Lib.hid h
  clear ho h hc0 hc1 hc2 hc5
  cases o with
  | true =>
    go_enter Try.func29, Try.ntmps29
    go_wp2_with fail
    go_end0
    rw [HD.out]
    exact ⟨rfl, Hh.out, Kept.refl _ _⟩
  | false =>
    have Hm := Lib.hid hm
    clear hm
    by_cases h0 : 0 ≤ m
    · have e0 : max m 0 = m := by omega
      have E0 := Lib.hid e0
      have h0' : decide (m < 0) = false := by simp; omega
      go_enter Try.func29, Try.ntmps29
      go_wp2_with fail
      go_end0
      rw [HD.out, if_neg (by simp), E0.out]
      exact ⟨rfl, Hh.out.put rfl rfl rfl rfl (by have := Hm.out; simp only; omega), keptG _ _ _ _⟩
    · have e0 : max m 0 = 0 := by omega
      have E0 := Lib.hid e0
      have h0' : m < 0 := by omega
      clear h0
      go_enter Try.func29, Try.ntmps29
      go_wp2_with fail
      go_end0
      rw [HD.out, if_neg (by simp), E0.out]
      exact ⟨rfl, Hh.out.put rfl rfl rfl rfl ⟨by show (0 : Int) ≤ 0; decide, by show (0 : Int) ≤ _; decide⟩, keptG _ _ _ _⟩
theorem pstart_any (w : World) (g gs : Nat) (vo : Value) (n : Nat) (D : DK) (h : PMem w g gs vo n D) (hto : D.torn = true → D.off = true) :
    Calls Try.prog 31 #[.pointer (some ⟨g, 0, none⟩)] w fun e w' => e = .returned (.tuple #[]) ∧ PPost w g gs vo n (dStart D) w' := by
  have hc5 := h.cells.2.2.2.2.2
  obtain ⟨o, ho⟩ : ∃ o, o = D.torn := ⟨_, rfl⟩
  rw [← ho] at hc5
  cases o with
  | true =>
    have hd : dStart D = { dCrash D [] with off := false } := by unfold dStart; rw [if_pos ⟨hto ho.symm, ho.symm⟩]
    have HD := Lib.hid hd
    have hcr := pcrash_any w g gs vo n D h (.slice none 0 0) [] (fun w' _ => Sl.nil w' 1)
    clear hd ho h hto
    go_enter Try.func31, Try.ntmps31
    go_wp2_with fail
    refine hcr.mono ?_
    clear hcr
    rintro e w1 ⟨rfl, vo1, h1, hk1, ho1⟩
    have hc3 := h1.cells.2.2.2.1
    have hfz := h1.hd.frozen
    have H1 := Lib.hid h1
    have HK1 := Lib.hid hk1
    have HO1 := Lib.hid ho1
    clear h1 hk1 ho1 hc5
    go_wp2_with fail
    go_end0
    rw [HD.out]
    exact ⟨rfl, vo1, H1.out.put rfl rfl rfl rfl H1.out.ok.arm, HK1.out.trans (keptG _ _ _ _) (fun _ _ e => .inl e), HO1.out⟩
  | false =>
    have hd : dStart D = { D with off := false } := by unfold dStart; rw [if_neg (by rw [← ho]; simp)]
    have HD := Lib.hid hd
    have hc3 := h.cells.2.2.2.1
    have hfz := h.hd.frozen
    have H := Lib.hid h
    clear hd ho h hto
    go_enter Try.func31, Try.ntmps31
    go_wp2_with fail
    go_end0
    rw [HD.out]
    exact ⟨rfl, vo, H.out.put rfl rfl rfl rfl H.out.ok.arm, (keptG _ _ _ _).weaken (fun _ e => .inl e), fun _ e => .inl e⟩
end Cam
