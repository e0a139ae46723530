import Derived.Test.YtdihockdaccmdaaFaY
/- the page's sum of falls. -/
namespace Cam
open Go Go.RowKit Go.Proofs

/-- 's = append(s, x...)' of ints, and where it lies -/
theorem wpList_append_ints_at {P : Program} {w : World} {ops : Array Oper} {rest : List Oper} {o : Oper} {a : Act} {Q : Exit → Act → World → Prop} (hgd : o.guard = none) (s x : Operand) (t : TypeId)
    (ho : o.op = .call { callee := .builtin .append, args := #[s, x], argTypes := #[t, t] })
    {e base : Nat} {v vx : Value} {l m : List Int} (E : Elem P t e 1 8) (hs : a.eval s = v) (hx : a.eval x = vx)
    (hown : OwnI e w base v l) (hsrc : Is w vx m) (hlen : (l.length + m.length) * 8 ≤ 140737488355328) (hbase : base ≤ w.heap.size)
    (h : ∀ a' n' cap' w', Hid (n' = l.length + m.length) → OwnI e w' base (.slice a' n' cap') (l ++ m) → w.grownBy w' v.ownBlock →
      Hid ((Value.slice a' n' cap').ownBlock = v.ownBlock ∨ (Value.slice a' n' cap').ownBlock = some w.heap.size) → wpList P ops Q rest (a.put o.dst (.slice a' n' cap')) w') : wpList P ops Q (o :: rest) a w := by
  refine wpList_plain hgd fun K hK => ?_
  obtain ⟨a', cap', w', hr, h2, h3, h4⟩ := run_append_sl_at (P := P) (ty := o.type) w E hown hsrc (is_oneCell m) (by unfold maxLen; omega) (by omega) hbase
  unfold Oper.wp execOp
  simp only [ho, resolve, invoke, builtin, Sem.run_bind, Sem.run_pure, Result.andThen_ok, List.map_toArray, List.map_cons, List.map_nil, hs, hx, hr]
  exact hK _ _ (h a' _ cap' w' rfl (OwnI.app h2) h3 h4)

section
variable {w0 W W' : World} {v v' v1 : Value} {cs rs cs1 rs1 : List Int}
theorem Both.alloc (h : Both w0 w0.heap.size v v' cs rs W) (o : Obj) : Both w0 w0.heap.size v v' cs rs (W.alloc o) := ⟨h.1.alloc o, h.2.1.alloc o, h.2.2.1, h.2.2.2.alloc h.2.2.2.size o⟩
theorem Both.stepC (h : Both w0 w0.heap.size v v' cs rs W) (ho : OwnI 3 W' w0.heap.size v1 cs1) (hg : W.grownBy W' v.ownBlock) (hat : Hid (v1.ownBlock = v.ownBlock ∨ v1.ownBlock = some W.heap.size)) : Both w0 w0.heap.size v1 v' cs1 rs W' :=
  ⟨ho, OwnI.grownO h.2.1 hg (fun k hk e => h.2.2.1 k e hk), Ap.step h.2.2.1 hat (OwnI.lt h.2.1), h.2.2.2.grown hg h.2.2.2.size (fun k hk => OwnI.ge h.1 k hk)⟩
theorem Both.stepR (h : Both w0 w0.heap.size v v' cs rs W) (ho : OwnI 3 W' w0.heap.size v1 rs1) (hg : W.grownBy W' v'.ownBlock) (hat : Hid (v1.ownBlock = v'.ownBlock ∨ v1.ownBlock = some W.heap.size)) : Both w0 w0.heap.size v v1 cs rs1 W' :=
  ⟨OwnI.grownO h.1 hg (fun k hk e => h.2.2.1 k hk e), ho, (Ap.step h.2.2.1.symm hat (OwnI.lt h.1)).symm, h.2.2.2.grown hg h.2.2.2.size (fun k hk => OwnI.ge h.2.1 k hk)⟩
end
theorem mem_chs {f : FT} {l : List FT} {x : Int} (h : f ∈ l) (hx : x ∈ f.ps) : x ∈ chs l := by
  induction l with
  | nil => cases h
  | cons g l ih =>
    rw [chs, List.mem_append]
    rcases List.mem_cons.1 h with rfl | h
    · exact .inl hx
    · exact .inr (ih h)
theorem mem_rts {f : FT} {l : List FT} (h : f ∈ l) : f.r ∈ rts l := by
  induction l with
  | nil => cases h
  | cons g l ih =>
    rw [rts, List.mem_cons]
    rcases List.mem_cons.1 h with rfl | h
    · exact .inl rfl
    · exact .inr (ih h)
def okN (x : Int) : Prop := 0 ≤ x ∧ x ≤ 4611686018427387904
theorem FT.ps_get (f : FT) (k : Nat) (hk : k < 5) : f.vs[2 + k]? = some (.int .i64 (f.ps.getD k 0)) ∧ f.ps.getD k 0 ∈ f.ps ∧ f.ps.take (k + 1) = f.ps.take k ++ [f.ps.getD k 0] := by
  match k, hk with
  | 0, _ => exact ⟨rfl, by simp [FT.ps], rfl⟩
  | 1, _ => exact ⟨rfl, by simp [FT.ps], rfl⟩
  | 2, _ => exact ⟨rfl, by simp [FT.ps], rfl⟩
  | 3, _ => exact ⟨rfl, by simp [FT.ps], rfl⟩
  | 4, _ => exact ⟨rfl, by simp [FT.ps], rfl⟩
theorem wInt_sum (l : List Int) (h : ∀ x ∈ l, okN x) : wInt (sumI l) = sumN l ∧ sumE l = if rightB (sumI l) = true then 0 else 1 := by
  have ha : allRight l = true := (allRight_iff l).2 (fun x hx => by have := h x hx; unfold okN at this; omega)
  have hE : sumE l = if rightB (sumI l) = true then 0 else 1 := by unfold sumE; rw [if_pos ha]
  refine ⟨?_, hE⟩
  unfold sumN wInt
  rw [hE]
  cases hr : rightB (sumI l) <;> simp

set_option maxRecDepth 100000 in
set_option maxHeartbeats 3200000 in
theorem rFallSum_any (w : World) (v : Value) (l : List FT) (h : Fs w v l) (hl : l.length ≤ 1000) :
    Calls Try.prog 16 #[v] w fun e w' => e = .returned (.tuple #[.int .i64 (fsC l), .int .i64 (fsR l), .int .i64 (fsE l)]) ∧ Below w.heap.size w w' := by
  obtain ⟨av, cap, rfl, hcap, hm⟩ := h.shape
  obtain ⟨n, hn⟩ : ∃ n, n = l.length := ⟨_, rfl⟩
  have HN := Lib.hid hn
  rw [← hn] at hcap hl ⊢
  rw [← hn] at h
  have HF3 : Hid (∀ x ∈ chs l ++ rts l, ¬ okN x → fsE l = 3 ∧ fsC l = 0 ∧ fsR l = 0) := by
    show ∀ x ∈ _, _
    intro x hx hnx
    have e : fsE l = 3 := by
      unfold fsE
      rw [if_neg]
      intro hc
      exact hnx ((capsOk_iff _).1 hc x hx)
    exact ⟨e, by unfold fsC; rw [if_neg (by omega)], by unfold fsR; rw [if_neg (by omega)]⟩
  clear hn
  go_enter Try.func16, Try.ntmps16
  go_wp2_with fail
  go_loopw [5, 6, 7] (fun v5 v6 i wr => ∃ (k : Nat) (cs rs : List Int) (a5 a6 : Option Addr) (n5 c5 n6 c6 : Nat), k ≤ n ∧ i = .int .i64 k ∧ v5 = .slice a5 n5 c5 ∧ v6 = .slice a6 n6 c6 ∧ Hid (Both w w.heap.size (.slice a5 n5 c5) (.slice a6 n6 c6) cs rs wr) ∧ Hid (cs = chs (l.take k) ∧ rs = rts (l.take k)) ∧ Hid ((∀ x ∈ cs, okN x) ∧ ∀ x ∈ rs, okN x)) (fun _ _ i _ => n - (intOf i).toNat)
  case atStart => exact ⟨0, [], [], none, none, 0, 0, 0, 0, Nat.zero_le _, rfl, rfl, rfl, ⟨OwnI.empty _ _ _, OwnI.empty _ _ _, Ap.nil, Below.refl _ _⟩, ⟨rfl, rfl⟩, ⟨by simp, by simp⟩⟩
  case round =>
    obtain ⟨k, cs, rs, a5, a6, n5, c5, n6, c6, hk, rfl, rfl, rfl, HB, HL, HO⟩ := hrel
    have hlen : cs.length ≤ 5000 ∧ rs.length ≤ 1000 := by
      rw [HL.out.1, HL.out.2, chs_length, rts_length, List.length_take]
      omega
    by_cases hlt : k < n
    · have hkl : k < l.length := by have := HN.out; omega
      obtain ⟨f, hf⟩ : ∃ f, f = l[k] := ⟨_, rfl⟩
      have HF := Lib.hid hf
      have HMEM : Hid (f ∈ l) := by show _ ∈ _; rw [hf]; exact List.getElem_mem _
      clear hf
      go_wp2_with fail
      go_loopw [5, 8] (fun v5 q wx => ∃ (j : Nat) (cs' : List Int) (b5 : Option Addr) (m5 d5 : Nat), j ≤ 5 ∧ q = .int .i64 j ∧ v5 = .slice b5 m5 d5 ∧ Hid (Both w w.heap.size (.slice b5 m5 d5) (.slice a6 n6 c6) cs' rs wx) ∧ Hid (cs' = cs ++ f.ps.take j) ∧ Hid (∀ x ∈ cs', okN x)) (fun _ q _ => 5 - (intOf q).toNat)
      case atStart => exact ⟨0, cs, a5, n5, c5, by omega, rfl, rfl, HB, by show _ = _; simp, HO.out.1⟩
      case round =>
        obtain ⟨j, cs', b5, m5, d5, hj, rfl, rfl, HBx, HL', HO'⟩ := hrel
        have hlen' : cs'.length ≤ 6000 := by rw [HL'.out, List.length_append, List.length_take]; have := Nat.min_le_left j f.ps.length; omega
        by_cases hlt5 : j < 5
        · obtain ⟨b, off, rfl, _, hc⟩ := (h.mono HBx.out.2.2.2).at (by omega)
          obtain ⟨g1, g2, g3⟩ := f.ps_get j hlt5
          have hcell := hc k hkl (2 + j) (.int .i64 (f.ps.getD j 0)) (by rw [← HF.out]; exact g1)
          rw [← Nat.add_assoc] at hcell
          obtain ⟨x, hx⟩ : ∃ x, x = f.ps.getD j 0 := ⟨_, rfl⟩
          rw [← hx] at hcell g2 g3
          have wi := fun w => within19_any w x 0 4611686018427387904
          have G3 := Lib.hid g3
          have HX : Hid (x ∈ chs l ++ rts l) := List.mem_append_left _ (mem_chs HMEM.out g2)
          clear hc g1 g2 g3 hx
          by_cases hok : okN x
          · have hok' : 0 ≤ x ∧ x ≤ 4611686018427387904 := hok
            rw [decide_eq_true hok'] at wi
            have HOK := Lib.hid hok
            have HBA := Lib.hid (HBx.out.alloc (.cells #[.int .i64 x] 3))
            have hlit := Is.lit1' (w := wr) rfl x 3
            clear hok hok'
            go_wp2_with (first
              | (go_at_call 19; refine (wi _).mono ?_; rintro e w1 ⟨rfl, rfl⟩)
              | (at_builtin; refine wpList_append_ints_at (v := .slice b5 m5 d5) rfl (.tmp 32) (.tmp 40) 28 rfl (l := cs') (m := [x]) (base := w.heap.size) elem_int rfl rfl HBA.out.1 hlit (by simp; omega) HBA.out.2.2.2.size ?_; intro a7 n7 c7 w7 Hn7 ho7 hg7 hat7; have HB7 := Lib.hid (HBA.out.stepC ho7 hg7 hat7); clear ho7 hg7 hat7)
              | fail)
            have HL7 : Hid (cs' ++ [x] = cs ++ f.ps.take (j + 1)) := by show _ = _; rw [HL'.out, G3.out, List.append_assoc]
            have HO7 : Hid (∀ y ∈ cs' ++ [x], okN y) := by
              show ∀ y ∈ _, _
              intro y hy
              rcases List.mem_append.1 hy with h1 | h1
              · exact HO'.out y h1
              · simp at h1
                rw [h1]
                exact HOK.out
            exact ⟨⟨j + 1, cs' ++ [x], a7, n7, c7, by omega, by push_cast; rfl, rfl, HB7, HL7, HO7⟩, by simp [intOf]; omega⟩
          · have hok' : ¬ (0 ≤ x ∧ x ≤ 4611686018427387904) := hok
            rw [decide_eq_false hok'] at wi
            have H3 := Lib.hid (HF3.out x HX.out hok)
            clear hok hok'
            go_wp2_with (first
              | (go_at_call 19; refine (wi _).mono ?_; rintro e w1 ⟨rfl, rfl⟩)
              | fail)
            refine bodyPost_ret (v := .tuple #[.int .i64 0, .int .i64 0, .int .i64 3]) (by simp [results, Try.results16, go_sem]) rfl ?_
            exact ⟨by rw [H3.out.1, H3.out.2.1, H3.out.2.2], HBx.out.2.2.2⟩
        · have hcs' : cs' = cs ++ f.ps := by rw [HL'.out, List.take_of_length_le (by simp [FT.ps]; omega)]
          have HCS := Lib.hid hcs'
          clear hcs' HL' HB
          obtain ⟨b, off, rfl, _, hc⟩ := (h.mono HBx.out.2.2.2).at (by omega)
          have hcell := hc k hkl 7 (.int .i64 f.r) (by rw [← HF.out]; rfl)
          obtain ⟨x, hx⟩ : ∃ x, x = f.r := ⟨_, rfl⟩
          rw [← hx] at hcell
          have wi := fun w => within19_any w x 0 4611686018427387904
          have HXR := Lib.hid hx
          have HX : Hid (x ∈ chs l ++ rts l) := by show _ ∈ _; rw [hx]; exact List.mem_append_right _ (mem_rts HMEM.out)
          clear hc hx
          by_cases hok : okN x
          · have hok' : 0 ≤ x ∧ x ≤ 4611686018427387904 := hok
            rw [decide_eq_true hok'] at wi
            have HOK := Lib.hid hok
            have HBA := Lib.hid (HBx.out.alloc (.cells #[.int .i64 x] 3))
            have hlit := Is.lit1' (w := wr) rfl x 3
            clear hok hok'
            go_wp2_with (first
              | (go_at_call 19; refine (wi _).mono ?_; rintro e w1 ⟨rfl, rfl⟩)
              | (at_builtin; refine wpList_append_ints_at (v := .slice a6 n6 c6) rfl (.tmp 49) (.tmp 55) 28 rfl (l := rs) (m := [x]) (base := w.heap.size) elem_int rfl rfl HBA.out.2.1 hlit (by simp; omega) HBA.out.2.2.2.size ?_; intro a7 n7 c7 w7 Hn7 ho7 hg7 hat7; have HB7 := Lib.hid (HBA.out.stepR ho7 hg7 hat7); clear ho7 hg7 hat7)
              | fail)
            have HL7 : Hid (cs' = chs (l.take (k + 1)) ∧ rs ++ [x] = rts (l.take (k + 1))) := by
              show _ ∧ _
              rw [take_snoc l k hkl, chs_append, rts_append, ← HF.out, HCS.out, HL.out.1, HL.out.2, HXR.out]
              simp [chs, rts]
            have HO7 : Hid ((∀ y ∈ cs', okN y) ∧ ∀ y ∈ rs ++ [x], okN y) := by
              refine ⟨HO'.out, ?_⟩
              intro y hy
              rcases List.mem_append.1 hy with h1 | h1
              · exact HO.out.2 y h1
              · simp at h1
                rw [h1]
                exact HOK.out
            exact ⟨⟨k + 1, cs', rs ++ [x], b5, a7, m5, d5, n7, c7, by omega, by push_cast; rfl, rfl, rfl, HB7, HL7, HO7⟩, by simp [intOf]; omega⟩
          · have hok' : ¬ (0 ≤ x ∧ x ≤ 4611686018427387904) := hok
            rw [decide_eq_false hok'] at wi
            have H3 := Lib.hid (HF3.out x HX.out hok)
            clear hok hok'
            go_wp2_with (first
              | (go_at_call 19; refine (wi _).mono ?_; rintro e w1 ⟨rfl, rfl⟩)
              | fail)
            refine bodyPost_ret (v := .tuple #[.int .i64 0, .int .i64 0, .int .i64 3]) (by simp [results, Try.results16, go_sem]) rfl ?_
            exact ⟨by rw [H3.out.1, H3.out.2.1, H3.out.2.2], HBx.out.2.2.2⟩
    · have hcs : cs = chs l ∧ rs = rts l := by
        rw [HL.out.1, HL.out.2, List.take_of_length_le (by have := HN.out; omega)]
        exact ⟨rfl, rfl⟩
      obtain ⟨hoc, hor, _, hbel⟩ := HB.out
      have ad1 := rAdd_any wr _ cs hoc.is (fun x hx => by have := HO.out.1 x hx; unfold okN at this; omega) (by omega)
      have ad2 := fun wx hx => rAdd_any wx (.slice a6 n6 c6) rs hx (fun x hx => by have := HO.out.2 x hx; unfold okN at this; omega) (by omega)
      obtain ⟨s1, t1⟩ := wInt_sum cs HO.out.1
      obtain ⟨s2, t2⟩ := wInt_sum rs HO.out.2
      rw [s1] at ad1
      rw [s2] at ad2
      have hcap' : capsOk (chs l ++ rts l) = true := by
        rw [capsOk_iff, ← hcs.1, ← hcs.2]
        intro x hx
        rcases List.mem_append.1 hx with h1 | h1
        · exact HO.out.1 x h1
        · exact HO.out.2 x h1
      have hE : fsE l = if sumE cs = 0 then sumE rs else sumE cs := by unfold fsE; rw [if_pos hcap', hcs.1, hcs.2]
      have hC : fsC l = if fsE l = 0 then sumI cs else 0 := by unfold fsC; rw [hcs.1]
      have hR : fsR l = if fsE l = 0 then sumI rs else 0 := by unfold fsR; rw [hcs.2]
      have n1 : sumE cs = 0 → sumN cs = sumI cs := fun e => by unfold sumN; rw [if_pos e]
      have n2 : sumE rs = 0 → sumN rs = sumI rs := fun e => by unfold sumN; rw [if_pos e]
      have HE := Lib.hid hE
      have HC := Lib.hid hC
      have HR := Lib.hid hR
      have HT1 := Lib.hid t1
      have HT2 := Lib.hid t2
      have HN1 := Lib.hid n1
      have HN2 := Lib.hid n2
      obtain ⟨x1, hx1⟩ : ∃ x, x = sumN cs := ⟨_, rfl⟩
      obtain ⟨x2, hx2⟩ : ∃ x, x = sumN rs := ⟨_, rfl⟩
      rw [← hx1] at ad1
      rw [← hx2] at ad2
      have HX1 := Lib.hid hx1
      have HX2 := Lib.hid hx2
      clear hcs s1 t1 s2 t2 hcap' hE hC hR n1 n2 hx1 hx2 HB HL HF3
      cases hb1 : rightB (sumI cs) with
      | true =>
        rw [hb1] at ad1
        have HB1 := Lib.hid hb1
        clear hb1
        cases hb2 : rightB (sumI rs) with
        | true =>
          rw [hb2] at ad2
          have HB2 := Lib.hid hb2
          clear hb2
          have e1 : sumE cs = 0 := by rw [HT1.out, HB1.out]; rfl
          have e2 : sumE rs = 0 := by rw [HT2.out, HB2.out]; rfl
          have HV : Hid (fsC l = x1 ∧ fsR l = x2 ∧ fsE l = 0) := by
            have e3 : fsE l = 0 := by rw [HE.out, if_pos e1, e2]
            refine ⟨?_, ?_, e3⟩
            · rw [HC.out, if_pos e3, HX1.out, HN1.out e1]
            · rw [HR.out, if_pos e3, HX2.out, HN2.out e2]
          clear e1 e2
          go_wp2_with fail
          refine ad1.mono ?_
          rintro e w9 ⟨rfl, hb9⟩
          have ad3 := ad2 w9 (hor.below hb9).is
          have hbw := hbel.next hb9
          clear ad1 ad2
          go_wp2_with fail
          refine ad3.mono ?_
          rintro e w10 ⟨rfl, hb10⟩
          go_wp2_with fail
          refine bodyPost_ret (v := .tuple #[.int .i64 x1, .int .i64 x2, .int .i64 0]) (by simp [results, Try.results16, go_sem]) rfl ?_
          exact ⟨by rw [HV.out.1, HV.out.2.1, HV.out.2.2], hbw.next hb10⟩
        | false =>
          rw [hb2] at ad2
          have HB2 := Lib.hid hb2
          clear hb2
          have HV : Hid (fsC l = 0 ∧ fsR l = 0 ∧ fsE l = 1) := by
            have e3 : fsE l = 1 := by rw [HE.out, HT1.out, HB1.out, HT2.out, HB2.out]; rfl
            refine ⟨?_, ?_, e3⟩
            · rw [HC.out, if_neg (by omega)]
            · rw [HR.out, if_neg (by omega)]
          go_wp2_with fail
          refine ad1.mono ?_
          rintro e w9 ⟨rfl, hb9⟩
          have ad3 := ad2 w9 (hor.below hb9).is
          have hbw := hbel.next hb9
          clear ad1 ad2
          go_wp2_with fail
          refine ad3.mono ?_
          rintro e w10 ⟨rfl, hb10⟩
          go_wp2_with fail
          refine bodyPost_ret (v := .tuple #[.int .i64 0, .int .i64 0, .int .i64 1]) (by simp [results, Try.results16, go_sem]) rfl ?_
          exact ⟨by rw [HV.out.1, HV.out.2.1, HV.out.2.2], hbw.next hb10⟩
      | false =>
        rw [hb1] at ad1
        have HB1 := Lib.hid hb1
        clear hb1
        have HV : Hid (fsC l = 0 ∧ fsR l = 0 ∧ fsE l = 1) := by
          have e3 : fsE l = 1 := by rw [HE.out, HT1.out, HB1.out]; rfl
          refine ⟨?_, ?_, e3⟩
          · rw [HC.out, if_neg (by omega)]
          · rw [HR.out, if_neg (by omega)]
        obtain ⟨z, hz⟩ : ∃ z, z = rightB (sumI rs) := ⟨_, rfl⟩
        rw [← hz] at ad2
        clear hz
        go_wp2_with fail
        refine ad1.mono ?_
        rintro e w9 ⟨rfl, hb9⟩
        have ad3 := ad2 w9 (hor.below hb9).is
        have hbw := hbel.next hb9
        clear ad1 ad2
        go_wp2_with fail
        refine ad3.mono ?_
        rintro e w10 ⟨rfl, hb10⟩
        go_wp2_with fail
        refine bodyPost_ret (v := .tuple #[.int .i64 0, .int .i64 0, .int .i64 1]) (by simp [results, Try.results16, go_sem]) rfl ?_
        exact ⟨by rw [HV.out.1, HV.out.2.1, HV.out.2.2], hbw.next hb10⟩

end Cam
