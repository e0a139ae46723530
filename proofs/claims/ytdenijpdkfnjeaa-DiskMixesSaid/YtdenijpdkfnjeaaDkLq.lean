import Derived.Test.YtdenijpdkfnjeaaDkLp
/- cambistlaw06: DiskMixes. -/
namespace Cam
open Go Go.RowKit Go.Proofs

theorem OwnI.kept {S : Nat → Prop} {t : TypeId} {w w' : World} {base : Nat} {v : Value} {l : List Int} (h : OwnI t w base v l) (hk : Kept S w w') (hg : ∀ j, v.ownBlock = some j → ¬ S j) : OwnI t w' base v l := by
  refine ⟨h.1, ?_⟩
  rcases h.2 with h2 | ⟨b, cap, cur, rfl, hb, hh, r⟩
  · exact Or.inl h2
  · exact Or.inr ⟨b, cap, cur, rfl, hb, (hk.block b (Array.getElem?_eq_some_iff.1 hh).1 (hg b rfl)).trans hh, r⟩
theorem elem_intD : Elem Try.prog 23 3 1 8 := Elem.mk' (z := .int .i64 0) Try.underlying23 (by kernel_rfl) rfl (by decide)
/-- 's = append(s, x...)' of ints, and where it lies -/
theorem wpList_append_ints_at {P : Program} {w : World} {ops : Array Oper} {rest : List Oper} {o : Oper} {a : Act} {Q : Exit → Act → World → Prop} (hgd : o.guard = none) (s x : Operand) (t : TypeId)
    (ho : o.op = .call { callee := .builtin .append, args := #[s, x], argTypes := #[t, t] })
    {e base : Nat} {v vx : Value} {l m : List Int} (E : Elem P t e 1 8) (hs : a.eval s = v) (hx : a.eval x = vx)
    (hown : OwnI e w base v l) (hsrc : Is w vx m) (hlen : (l.length + m.length) * 8 ≤ 140737488355328) (hbase : base ≤ w.heap.size)
    (h : ∀ a' n' cap' w', Hid (n' = l.length + m.length) → OwnI e w' base (.slice a' n' cap') (l ++ m) → w.grownBy w' v.ownBlock →
      Hid ((Value.slice a' n' cap').ownBlock = v.ownBlock ∨ (Value.slice a' n' cap').ownBlock = some w.heap.size) → wpList P ops Q rest (a.put o.dst (.slice a' n' cap')) w') : wpList P ops Q (o :: rest) a w := by
  refine wpList_plain hgd fun K hK => ?_
  obtain ⟨a', cap', w', hr, h2, h3, h4⟩ := run_append_sl_at (P := P) (ty := o.type) w E hown hsrc (is_oneCell m) (by unfold maxLen; omega) (by omega) hbase
  unfold Oper.wp execOp
  simp only [ho, resolve, invoke, builtin, Sem.run_bind, Sem.run_pure, Result.andThen_ok, List.map_toArray, List.map_cons, List.map_nil, hs, hx, hr]
  exact hK _ _ (h a' _ cap' w' rfl (OwnI.app h2) h3 h4)

/-- the slice's block is none of the disk's -/
def Off5 (g gs gn : Nat) (vo va : Value) : Prop := ∀ j, DS g gs gn vo j → va.ownBlock ≠ some j
theorem Off5.nil {g gs gn : Nat} {vo : Value} : Off5 g gs gn vo (.slice none 0 0) := fun j _ h => by cases h
theorem Off5.write {w : World} {g gs gn base : Nat} {vo vo' va : Value} {l : List Int} {t : TypeId} (h : Off5 g gs gn vo va) (ho : ∀ k, vo'.ownBlock = some k → vo.ownBlock = some k ∨ w.heap.size ≤ k) (hv : OwnI t w base va l) : Off5 g gs gn vo' va := by
  intro j hj e
  have hlt := (World.ownsRow.lt hv j e).2
  rcases hj with rfl | rfl | rfl | hj
  · exact h _ (.inl rfl) e
  · exact h _ (.inr (.inl rfl)) e
  · exact h _ (.inr (.inr (.inl rfl))) e
  · rcases ho j hj with h1 | h1
    · exact h _ (.inr (.inr (.inr h1))) e
    · omega
theorem DM.lts {w : World} {g gs gn : Nat} {vo : Value} {n : Nat} {D : DK} (h : DM w g gs gn vo n D) {j : Nat} (hj : DS g gs gn vo j) : j < w.heap.size := by
  have x1 := h.hd.lt
  obtain ⟨x2, x3, x4⟩ := h.lt
  rcases hj with e | e | e | e
  · omega
  · omega
  · omega
  · exact (h.row _ e).2
theorem Off5.grown {w : World} {g gs gn n : Nat} {vo va va' : Value} {D : DK} (h : Off5 g gs gn vo va) (hd : DM w g gs gn vo n D) (hat : va'.ownBlock = va.ownBlock ∨ va'.ownBlock = some w.heap.size) : Off5 g gs gn vo va' := by
  intro j hj e
  have hlt := hd.lts hj
  rcases hat with h1 | h1
  · exact h j hj (h1 ▸ e)
  · rw [h1] at e
    cases e
    omega
theorem OwnI.isKept {t : TypeId} {w w' : World} {g gs gn base : Nat} {vo va : Value} {l : List Int} (h : OwnI t w base va l) (ho : Off5 g gs gn vo va) (hk : Kept (DS g gs gn vo) w w') : Is w' va l := (OwnI.kept h hk (fun j hj hs => ho j hs hj)).is

-- the plain laws
theorem pickN_none (k : Nat) : pickN [] k = 0 := rfl
theorem pickN_65 {n k : Nat} (h : k < n) : pickN (List.replicate n 65) k = 64 := by
  unfold pickN
  rw [List.getElem?_replicate, if_pos h]
  rfl
def opsOf (l : List UInt8) : List (Nat × List UInt8) := l.map fun c => (0, fill64 c)
theorem opsOf_length (l : List UInt8) : (opsOf l).length = l.length := by simp [opsOf]
theorem opsOf_get {l : List UInt8} {k : Nat} (h : k < l.length) : (opsOf l)[k]? = some (0, fill64 l[k]) := by
  unfold opsOf
  rw [List.getElem?_map, List.getElem?_eq_getElem h]
  rfl
theorem opsOf_snoc {l : List UInt8} {k : Nat} (h : k < l.length) : opsOf (l.take k) ++ [(0, fill64 l[k])] = opsOf (l.take (k + 1)) := by
  rw [take_snoc l k h]
  unfold opsOf
  rw [List.map_append]
  rfl
theorem fill64_at (c : UInt8) {j : Nat} (h : j < 64) : (bvs (fill64 c))[j]? = some (.int .u8 (c.toNat : Int)) := by
  unfold fill64 bvs
  rw [List.map_replicate, List.getElem?_replicate, if_pos h]
theorem crash_none (l : List UInt8) (safe : UInt8) : ∀ k, k ≤ l.length → crashTo (opsOf l) [] [fill64 safe] k = [fill64 safe]
  | 0, _ => rfl
  | k + 1, h => by
    rw [crashTo, crash_none l safe k (by omega), opsOf_get (by omega), pickN_none]
    simp [mixB_none]
def lastB (safe : UInt8) (l : List UInt8) (k : Nat) : UInt8 := if k = 0 then safe else l.getD (k - 1) 0
theorem crash_all (l : List UInt8) (safe : UInt8) : ∀ k, k ≤ l.length → crashTo (opsOf l) (List.replicate l.length 65) [fill64 safe] k = [fill64 (lastB safe l k)]
  | 0, _ => rfl
  | k + 1, h => by
    rw [crashTo, crash_all l safe k (by omega), opsOf_get (by omega), pickN_65 (by omega)]
    have e : lastB safe l (k + 1) = l[k] := by simp [lastB, List.getD, List.getElem?_eq_getElem (show k < l.length by omega)]
    rw [e]
    simp [mixB_whole (fill64_length _) (fill64_length _)]
theorem crash_some (l : List UInt8) (safe : UInt8) (picks : List Int) {b : List UInt8} (h : (crashTo (opsOf l) picks [fill64 safe] (opsOf l).length)[0]? = some b) : ∀ c ∈ b, c = safe ∨ c ∈ l := by
  have := crashTo_all (P := fun c => c = safe ∨ c ∈ l) picks (s := [fill64 safe]) (op := opsOf l) (fun c hc => .inl (by
    have hc' : c ∈ fill64 safe := hc
    unfold fill64 at hc'
    exact List.eq_of_mem_replicate hc')) (fun x hx c hc => .inr (by
    obtain ⟨d, hd, rfl⟩ := List.mem_map.1 hx
    have hc' : c ∈ fill64 d := hc
    unfold fill64 at hc'
    rw [List.eq_of_mem_replicate hc']
    exact hd)) (opsOf l).length
  intro c hc
  exact this c (by rw [List.getD, h]; exact hc)

set_option maxHeartbeats 800000 in
theorem in_any (w : World) (c : UInt8) (v : Value) (l : List UInt8) (h : Bs w v l) (hl : l.length ≤ 300) (hc : c ∈ l) :
    Calls Try.prog 17 #[.int .u8 (c.toNat : Int), v] w fun e w' => e = .returned (.bool true) ∧ w = w' := by
  obtain ⟨a, cp, rfl, hcl, hml⟩ := h.shape
  have HC := Lib.hid hc
  obtain ⟨n, hn⟩ : ∃ n, n = l.length := ⟨_, rfl⟩
  have HN := Lib.hid hn
  rw [← hn] at hcl hl ⊢
  rw [← hn] at h
  clear hc hn
  go_enter Try.func17, Try.ntmps17
  go_wp2_with fail
  go_loop [5] (fun i => ∃ k : Nat, k ≤ n ∧ i = .int .i64 k ∧ Hid (c ∉ l.take k)) (fun i => n - (intOf i).toNat)
  case atStart => exact ⟨0, Nat.zero_le _, rfl, by show ¬ _; simp⟩
  case round =>
    obtain ⟨k, hk, rfl, HNI⟩ := hrel
    by_cases hlt : k < n
    · have hkl : k < l.length := by have := HN.out; omega
      obtain ⟨b, off, rfl, _, hcs⟩ := h.at (by omega)
      have hck := hcs k hkl
      obtain ⟨x, hx⟩ : ∃ x, x = l[k] := ⟨_, rfl⟩
      rw [← hx] at hck
      have HX := Lib.hid hx
      clear hcs hx
      by_cases hxc : x = c
      · subst hxc
        go_wp2_with fail
        go_ret
        exact ⟨rfl, rfl⟩
      · have hne : ¬ ((x.toNat : Int) = (c.toNat : Int)) := fun e => hxc (UInt8.toNat_inj.1 (by omega))
        have HNI2 : Hid (c ∉ l.take (k + 1)) := by
          show ¬ _
          rw [take_snoc l k hkl, List.mem_append, List.mem_singleton, ← HX.out]
          rintro (h1 | h1)
          · exact HNI.out h1
          · exact hxc h1.symm
        clear hxc HNI
        go_wp2_with fail
        go_round
        case rel => exact ⟨k + 1, by omega, by go_num, HNI2⟩
        case measure => simp [intOf]; omega
    · exfalso
      apply HNI.out
      rw [List.take_of_length_le (by have := HN.out; omega)]
      exact HC.out

set_option maxRecDepth 100000 in
set_option maxHeartbeats 6400000 in
theorem DiskMixes_walk (w : World) (safe : UInt8) (v1 v2 : Value) (l : List UInt8) (picks : List Int) (h1 : Bs w v1 l) (h2 : Is w v2 picks) :
    Calls Try.prog 4 #[.int .u8 (safe.toNat : Int), v1, v2] w fun e w' => e = .returned (.bool true) ∧ Below w.heap.size w w' := by
  obtain ⟨al, cl, rfl, hcl, hml⟩ := h1.shape
  obtain ⟨ap, cp, rfl, hcp, hmp⟩ := h2.shape
  by_cases c0 : 300 < l.length
  · have hi0 : (300 : Int) < (l.length : Int) := by omega
    go_enter Try.func4, Try.ntmps4
    go_wp2_with fail
    go_ret
    exact ⟨rfl, Below.refl _ _⟩
  have hi0 : decide ((300 : Int) < (l.length : Int)) = false := by simp; omega
  by_cases c1 : 300 < picks.length
  · have hi1 : (300 : Int) < (picks.length : Int) := by omega
    go_enter Try.func4, Try.ntmps4
    go_wp2_with fail
    go_ret
    exact ⟨rfl, Below.refl _ _⟩
  have hi1 : decide ((300 : Int) < (picks.length : Int)) = false := by simp; omega
  obtain ⟨n, hn⟩ : ∃ n, n = l.length := ⟨_, rfl⟩
  have HNL := Lib.hid hn
  rw [← hn] at hi0 c0 hcl ⊢
  have hnn : n ≤ 300 := by omega
  rw [← hn] at h1
  have bls := fun w => Block_fill w safe
  clear c0 c1 hn
  go_enter Try.func4, Try.ntmps4
  go_wp2_with fail
  go_loopw [7] (fun q wr => ∃ k : Nat, k ≤ 3 ∧ q = .int .i64 k ∧ Below w.heap.size w wr) (fun q _ => 3 - (intOf q).toNat)
  case atStart => exact ⟨0, by omega, rfl, Below.refl _ _⟩
  case round =>
    obtain ⟨k, hk, rfl, hbel⟩ := hrel
    by_cases hlt : k < 3
    · go_wp2_with fail
      refine (New_ok wr 1 (by omega) (by omega)).mono ?_
      rintro e w1 ⟨g, gs, gn, rfl, hd1, f1, f2, f3, hb1⟩
      have hs0 := hbel.size
      have Hfar1 : Hid (Far w.heap.size g gs gn (.slice none 0 0)) := ⟨by omega, by omega, by omega, fun k hk => by cases hk⟩
      have hbb1 := hbel.next hb1
      clear f1 f2 f3 hb1 hs0 hbel
      go_wp2_with fail
      refine (bls _).mono ?_
      rintro e w2 ⟨rfl, hb2⟩
      have hd2 := hd1.below hb2
      have hbb2 := hbb1.next hb2
      clear hd1 hbb1 hb2
      go_wp2_with fail
      refine (Write_on w2 g gs gn _ 1 _ hd2 0 (fill64 safe) rfl rfl (by omega) (fill64_length safe) (by decide)).mono ?_
      rintro e w3 ⟨rfl, vo3, hd3, hk3, ho3⟩
      have hbb3 := hbb2.trans (Hfar1.out.below hk3 hbb2.size)
      have Hfar3 := Lib.hid (Hfar1.out.next ho3 hbb2.size)
      clear hd2 hbb2 hk3 ho3 Hfar1
      go_wp2_with fail
      refine (Sync_on w3 g gs gn _ 1 _ hd3 rfl rfl).mono ?_
      rintro e w4 ⟨rfl, vo4, hd4, hk4, ho4⟩
      have hbb4 := hbb3.trans (Hfar3.out.below hk4 hbb3.size)
      have Hfar4 := Lib.hid (Hfar3.out.next ho4 hbb3.size)
      obtain ⟨D4, hD4⟩ : ∃ D4, D4 = dSynced (dPut (DK.new 1) 0 (fill64 safe)) := ⟨_, rfl⟩
      rw [← hD4] at hd4
      have HON4 : Hid (D4.off = false ∧ D4.arm = 0) := by show _ ∧ _; rw [hD4]; exact ⟨rfl, rfl⟩
      have HS4 : Hid (D4.syn = [fill64 safe] ∧ D4.op = opsOf (l.take 0)) := by show _ ∧ _; rw [hD4]; exact ⟨rfl, rfl⟩
      have hl4 : D4.op.length = 0 := by rw [HS4.out.2]; rfl
      clear hd3 hbb3 hk4 ho4 Hfar3 hD4
      go_wp2_with fail
      go_loopw [10, 11] (fun va i wr => ∃ (i' : Nat) (D : DK) (vo : Value) (a' : Option Addr) (n' c' : Nat), i' ≤ n ∧ va = .slice a' n' c' ∧ i = .int .i64 i' ∧ DM wr g gs gn vo 1 D ∧ Hid (Far w.heap.size g gs gn vo) ∧ Hid (D.off = false ∧ D.arm = 0) ∧ D.op.length = i' ∧ Hid (D.syn = [fill64 safe] ∧ D.op = opsOf (l.take i')) ∧ OwnI 3 wr w.heap.size (.slice a' n' c') (List.replicate i' 65) ∧ Hid (Off5 g gs gn vo (.slice a' n' c')) ∧ Below w.heap.size w wr) (fun _ i _ => n - (intOf i).toNat)
      case atStart => exact ⟨0, D4, vo4, none, 0, 0, Nat.zero_le _, rfl, rfl, hd4, Hfar4, HON4, hl4, HS4, OwnI.empty _ _ _, Off5.nil, hbb4⟩
      case round =>
        obtain ⟨i, D, vo, a5, n5, c5, hi, rfl, rfl, hd, Hfar, HON, hopl, HS, hown, HAP, hbel⟩ := hrel
        clear hd4 hbb4 Hfar4 HON4 HS4 hl4
        by_cases hli : i < n
        · have hil : i < l.length := by have := HNL.out; omega
          obtain ⟨bk, offk, rfl, _, hc⟩ := (h1.mono hbel).at (by omega)
          have hck := hc i hil
          obtain ⟨c, hcx⟩ : ∃ c, c = l[i] := ⟨_, rfl⟩
          rw [← hcx] at hck
          have HCX := Lib.hid hcx
          clear hc hcx
          go_wp2_with fail
          refine (Block_fill _ c).mono ?_
          rintro e w5 ⟨rfl, hb5⟩
          have hd5 := hd.below hb5
          have hbb5 := hbel.next hb5
          have hown5 := hown.below hb5
          clear hd hck hbel hb5 hown
          go_wp2_with fail
          refine (Write_on w5 g gs gn _ 1 D hd5 0 (fill64 c) HON.out.1 HON.out.2 (by omega) (fill64_length c) (by omega)).mono ?_
          rintro e w6 ⟨rfl, vo6, hd6, hk6, ho6⟩
          have hbb6 := hbb5.trans (Hfar.out.below hk6 hbb5.size)
          have Hfar6 := Lib.hid (Hfar.out.next ho6 hbb5.size)
          have hown6 := hown5.kept hk6 (fun j hj hs => HAP.out j hs hj)
          have HAP6 : Off5 g gs gn vo6 (.slice a5 n5 c5) := Off5.write HAP.out ho6 hown5
          have hopl6 : (dPut D 0 (fill64 c)).op.length = i + 1 := by show (D.op ++ [_]).length = _; rw [List.length_append, hopl]; rfl
          have HS6 : Hid ((dPut D 0 (fill64 c)).syn = [fill64 safe] ∧ (dPut D 0 (fill64 c)).op = opsOf (l.take (i + 1))) := by
            refine ⟨HS.out.1, ?_⟩
            show D.op ++ [_] = _
            rw [HS.out.2, HCX.out]
            exact opsOf_snoc hil
          have hd6A := hd6.alloc (.cells #[.int .i64 65] 3)
          have hbb6A := hbb6.alloc hbb6.size (.cells #[.int .i64 65] 3)
          have hown6A := hown6.alloc (.cells #[.int .i64 65] 3)
          have hlit := Is.lit1 w6 65 3
          have hsz6 := hbb6A.size
          have hrl : (List.replicate i (65 : Int)).length = i := List.length_replicate
          have HRL := Lib.hid hrl
          have HAP6 := Lib.hid HAP6
          clear hd5 hbb5 hown5 hk6 ho6 hown6 hd6 hbb6 hrl HAP Hfar
          go_wp2_with (first | (at_builtin; refine wpList_append_ints_at rfl (.tmp 59) (.tmp 60) 23 rfl elem_intD rfl rfl hown6A hlit (by rw [HRL.out]; simp; omega) hsz6 ?_; intro a7 n7 c7 w7 Hn7 hown7 hg7 hat7) | fail)
          have hk7 := Kept.of_grown hg7
          have hd7 := hd6A.kept hk7 (fun j hj e => HAP6.out j hj e)
          have HAP7 : Hid (Off5 g gs gn vo6 (.slice a7 n7 c7)) := Off5.grown HAP6.out hd6A hat7.out
          have hbb7 : Below w.heap.size w w7 := hbb6A.trans ((Below.refl _ _).grown hg7 hsz6 (fun j hj => (World.ownsRow.lt hown6A j hj).1))
          have hown7' : OwnI 3 w7 w.heap.size (.slice a7 n7 c7) (List.replicate (i + 1) 65) := by rw [List.replicate_succ']; exact hown7
          clear hd6A hbb6A hown6A hlit hsz6 HAP6 hk7 hg7 hat7 hown7
          go_wp2_with fail
          exact ⟨⟨i + 1, dPut D 0 (fill64 c), vo6, a7, n7, c7, by omega, rfl, by push_cast; rfl, hd7, Hfar6, ⟨HON.out.1, HON.out.2⟩, hopl6, HS6, hown7', HAP7, hbb7⟩, by simp [intOf]; omega⟩
        · have hin : i = n := by omega
          subst hin
          have HS' : Hid (D.syn = [fill64 safe] ∧ D.op = opsOf l) := by
            refine ⟨HS.out.1, ?_⟩
            rw [HS.out.2, List.take_of_length_le (by have := HNL.out; omega)]
          clear HS
          have hcase : k = 0 ∨ k = 1 ∨ k = 2 := by omega
          rcases hcase with rfl | rfl | rfl
          · skip
            have cr := Crash_any wr g gs gn _ 1 D hd _ picks (fun w' hk => h2.mono (hbel.trans (Hfar.out.below hk hbel.size)))
            obtain ⟨D6, hD6⟩ : ∃ D6, D6 = dStart (dCrash D picks) := ⟨_, rfl⟩
            have HOFF : Hid (D6.off = false) := by show _ = _; rw [hD6]; exact again_offA D _
            have e1 : D6.now = crashTo (opsOf l) picks [fill64 safe] (opsOf l).length := by
              rw [hD6]
              simp only [dStart, dCrash, HS'.out.1, HS'.out.2]
              simp
            have st := fun w5 vo5 hd5 => Start_any w5 g gs gn vo5 1 (dCrash D picks) hd5
            rw [← hD6] at st
            have E1 := Lib.hid e1
            clear hD6 e1 hd hown
            go_wp2_with fail
            refine cr.mono ?_
            rintro e w5 ⟨rfl, vo5, hd5, hk5, ho5⟩
            have hbb5 := hbel.trans (Hfar.out.below hk5 hbel.size)
            have Hfar5 := Lib.hid (Hfar.out.next ho5 hbel.size)
            have st5 := st w5 vo5 hd5
            clear cr st hd5 hbel hk5 ho5 Hfar HAP
            go_wp2_with fail
            refine st5.mono ?_
            rintro e w6 ⟨rfl, vo6, hd6, hk6, ho6⟩
            have hbb6 := hbb5.trans (Hfar5.out.below hk6 hbb5.size)
            have hja : 0 < D6.now.length := by rw [hd6.ok.now.1]; omega
            obtain ⟨b, hbe⟩ : ∃ b, D6.now[0]? = some b := ⟨_, List.getElem?_eq_getElem hja⟩
            have hbl : b.length = 64 := hd6.ok.now.2 b (List.mem_of_getElem? hbe)
            have rd := Read_on w6 g gs gn _ 1 D6 hd6 HOFF.out 0 (by omega) b hbe
            rw [E1.out] at hbe
            have HF : Hid (∀ c ∈ b, c = safe ∨ c ∈ l) := crash_some l safe picks hbe
            have HBL := Lib.hid hbl
            clear st5 hbb5 hk6 ho6 Hfar5 hbe hja hbl hd6 E1 HS'
            go_wp2_with fail
            refine rd.mono ?_
            rintro e w7 ⟨rfl, hb7⟩
            obtain ⟨q1, q2, q3⟩ := box_world w7 b HBL.out
            have hb7' := (hbb6.next hb7).next q1
            have Q3 := Lib.hid q3
            have Hsz := Lib.hid (size64_of HBL.out)
            have Q2 := Lib.hid q2
            clear rd hbb6 hb7 q1 q2 q3
            go_wp2_with (first
              | (refine wpList_store_mid rfl 29 (.tmp 12) (.tmp 80) rfl w7.heap.size 0 (bvs b).toArray rfl rfl Q3.out (by simpa using Hsz.out) (all_oneCell_toArray (bs_oneCell _)) ?_; change wpList _ _ _ _ _ ((w7.alloc (.cells (bvs zero64).toArray 29)).setCells w7.heap.size 0 (bvs b)))
              | fail)
            have hun := Try.underlying29
            skip
            go_loop [14] (fun q => ∃ j : Nat, j ≤ 64 ∧ q = .int .i64 j) (fun q => 64 - (intOf q).toNat)
            case atStart => exact ⟨0, by omega, rfl⟩
            case round =>
              obtain ⟨j, hj, rfl⟩ := hrel
              by_cases hj64 : j < 64
              · have hjl : j < b.length := by rw [HBL.out]; exact hj64
                obtain ⟨c, hcb⟩ : ∃ c, c = b[j] := ⟨_, rfl⟩
                have hcell := Q2.out.cell (j := j) (v := .int .u8 (c.toNat : Int)) (by simp [bvs, List.getElem?_eq_getElem hjl, hcb])
                have hor := HF.out c (by rw [hcb]; exact List.getElem_mem hjl)
                clear hjl hcb
                by_cases hcs : c = safe
                · subst hcs
                  clear hor
                  go_wp2_with fail
                  go_round
                  case rel => exact ⟨j + 1, by omega, by go_num⟩
                  case measure => simp [intOf]; omega
                · have hne : ¬ ((c.toNat : Int) = (safe.toNat : Int)) := fun e => hcs (UInt8.toNat_inj.1 (by omega))
                  have hmem : c ∈ l := by rcases hor with h | h; exact absurd h hcs; exact h
                  have inr_ := in_any _ c _ l (HNL.out ▸ h1.mono hb7') (by have := HNL.out; omega) hmem
                  rw [← HNL.out] at inr_
                  clear hor hcs hmem
                  go_wp2_with (first | (go_at_call 17; refine inr_.mono ?_; rintro e w9 ⟨rfl, rfl⟩) | fail)
                  go_round
                  case rel => exact ⟨j + 1, by omega, by go_num⟩
                  case measure => simp [intOf]; omega
              · go_wp2_with fail
                exact ⟨⟨1, by omega, rfl, hb7'⟩, by simp [intOf]⟩
          · skip
            have cr := Crash_any wr g gs gn _ 1 D hd (.slice none 0 0) [] (fun w' _ => Is.nil w')
            obtain ⟨D6, hD6⟩ : ∃ D6, D6 = dStart (dCrash D []) := ⟨_, rfl⟩
            have HOFF : Hid (D6.off = false) := by show _ = _; rw [hD6]; exact again_offA D _
            have e1 : D6.now = crashTo (opsOf l) [] [fill64 safe] (opsOf l).length := by
              rw [hD6]
              simp only [dStart, dCrash, HS'.out.1, HS'.out.2]
              simp
            have st := fun w5 vo5 hd5 => Start_any w5 g gs gn vo5 1 (dCrash D []) hd5
            rw [← hD6] at st
            have E1 := Lib.hid e1
            clear hD6 e1 hd hown
            go_wp2_with fail
            refine cr.mono ?_
            rintro e w5 ⟨rfl, vo5, hd5, hk5, ho5⟩
            have hbb5 := hbel.trans (Hfar.out.below hk5 hbel.size)
            have Hfar5 := Lib.hid (Hfar.out.next ho5 hbel.size)
            have st5 := st w5 vo5 hd5
            clear cr st hd5 hbel hk5 ho5 Hfar HAP
            go_wp2_with fail
            refine st5.mono ?_
            rintro e w6 ⟨rfl, vo6, hd6, hk6, ho6⟩
            have hbb6 := hbb5.trans (Hfar5.out.below hk6 hbb5.size)
            have hja : 0 < D6.now.length := by rw [hd6.ok.now.1]; omega
            obtain ⟨b, hbe⟩ : ∃ b, D6.now[0]? = some b := ⟨_, List.getElem?_eq_getElem hja⟩
            have hbl : b.length = 64 := hd6.ok.now.2 b (List.mem_of_getElem? hbe)
            have rd := Read_on w6 g gs gn _ 1 D6 hd6 HOFF.out 0 (by omega) b hbe
            rw [E1.out] at hbe
            rw [opsOf_length, crash_none l safe _ (Nat.le_refl _)] at hbe
            have HF : Hid (b = fill64 safe) := (Option.some.inj hbe).symm
            have HBL := Lib.hid hbl
            clear st5 hbb5 hk6 ho6 Hfar5 hbe hja hbl hd6 E1 HS'
            go_wp2_with fail
            refine rd.mono ?_
            rintro e w7 ⟨rfl, hb7⟩
            obtain ⟨q1, q2, q3⟩ := box_world w7 b HBL.out
            have hb7' := (hbb6.next hb7).next q1
            have Q3 := Lib.hid q3
            have Hsz := Lib.hid (size64_of HBL.out)
            have Q2 := Lib.hid q2
            clear rd hbb6 hb7 q1 q2 q3
            go_wp2_with (first
              | (refine wpList_store_mid rfl 29 (.tmp 12) (.tmp 80) rfl w7.heap.size 0 (bvs b).toArray rfl rfl Q3.out (by simpa using Hsz.out) (all_oneCell_toArray (bs_oneCell _)) ?_; change wpList _ _ _ _ _ ((w7.alloc (.cells (bvs zero64).toArray 29)).setCells w7.heap.size 0 (bvs b)))
              | fail)
            have hun := Try.underlying29
            skip
            go_loop [14] (fun q => ∃ j : Nat, j ≤ 64 ∧ q = .int .i64 j) (fun q => 64 - (intOf q).toNat)
            case atStart => exact ⟨0, by omega, rfl⟩
            case round =>
              obtain ⟨j, hj, rfl⟩ := hrel
              by_cases hj64 : j < 64
              · have hjl : j < b.length := by rw [HBL.out]; exact hj64
                have hcell := Q2.out.cell (j := j) (v := .int .u8 (safe.toNat : Int)) (by rw [HF.out]; exact fill64_at _ hj64)
                clear hjl
                go_wp2_with fail
                go_round
                case rel => exact ⟨j + 1, by omega, by go_num⟩
                case measure => simp [intOf]; omega
              · go_wp2_with fail
                exact ⟨⟨2, by omega, rfl, hb7'⟩, by simp [intOf]⟩
          · by_cases hi0 : i = 0
            · subst hi0
              have cr := Crash_any wr g gs gn _ 1 D hd _ (List.replicate 0 65) (fun w' hk => hown.isKept HAP.out hk)
              obtain ⟨D6, hD6⟩ : ∃ D6, D6 = dStart (dCrash D (List.replicate 0 65)) := ⟨_, rfl⟩
              have HOFF : Hid (D6.off = false) := by show _ = _; rw [hD6]; exact again_offA D _
              have e1 : D6.now = crashTo (opsOf l) (List.replicate 0 65) [fill64 safe] (opsOf l).length := by
                rw [hD6]
                simp only [dStart, dCrash, HS'.out.1, HS'.out.2]
                simp
              have st := fun w5 vo5 hd5 => Start_any w5 g gs gn vo5 1 (dCrash D (List.replicate 0 65)) hd5
              rw [← hD6] at st
              have E1 := Lib.hid e1
              clear hD6 e1 hd hown
              go_wp2_with fail
              refine cr.mono ?_
              rintro e w5 ⟨rfl, vo5, hd5, hk5, ho5⟩
              have hbb5 := hbel.trans (Hfar.out.below hk5 hbel.size)
              have Hfar5 := Lib.hid (Hfar.out.next ho5 hbel.size)
              have st5 := st w5 vo5 hd5
              clear cr st hd5 hbel hk5 ho5 Hfar HAP
              go_wp2_with fail
              refine st5.mono ?_
              rintro e w6 ⟨rfl, vo6, hd6, hk6, ho6⟩
              have hbb6 := hbb5.trans (Hfar5.out.below hk6 hbb5.size)
              have hja : 0 < D6.now.length := by rw [hd6.ok.now.1]; omega
              obtain ⟨b, hbe⟩ : ∃ b, D6.now[0]? = some b := ⟨_, List.getElem?_eq_getElem hja⟩
              have hbl : b.length = 64 := hd6.ok.now.2 b (List.mem_of_getElem? hbe)
              have rd := Read_on w6 g gs gn _ 1 D6 hd6 HOFF.out 0 (by omega) b hbe
              rw [E1.out] at hbe
              have HF : Hid (b = fill64 safe) := by
                have e0 : (opsOf l).length = 0 := by rw [opsOf_length]; exact HNL.out.symm
                rw [e0] at hbe
                exact (Option.some.inj hbe).symm
              have HBL := Lib.hid hbl
              clear st5 hbb5 hk6 ho6 Hfar5 hbe hja hbl hd6 E1 HS'
              go_wp2_with fail
              refine rd.mono ?_
              rintro e w7 ⟨rfl, hb7⟩
              obtain ⟨q1, q2, q3⟩ := box_world w7 b HBL.out
              have hb7' := (hbb6.next hb7).next q1
              have Q3 := Lib.hid q3
              have Hsz := Lib.hid (size64_of HBL.out)
              have Q2 := Lib.hid q2
              clear rd hbb6 hb7 q1 q2 q3
              go_wp2_with (first
                | (refine wpList_store_mid rfl 29 (.tmp 12) (.tmp 80) rfl w7.heap.size 0 (bvs b).toArray rfl rfl Q3.out (by simpa using Hsz.out) (all_oneCell_toArray (bs_oneCell _)) ?_; change wpList _ _ _ _ _ ((w7.alloc (.cells (bvs zero64).toArray 29)).setCells w7.heap.size 0 (bvs b)))
                | fail)
              have hun := Try.underlying29
              skip
              go_loop [14] (fun q => ∃ j : Nat, j ≤ 64 ∧ q = .int .i64 j) (fun q => 64 - (intOf q).toNat)
              case atStart => exact ⟨0, by omega, rfl⟩
              case round =>
                obtain ⟨j, hj, rfl⟩ := hrel
                by_cases hj64 : j < 64
                · have hjl : j < b.length := by rw [HBL.out]; exact hj64
                  have hcell := Q2.out.cell (j := j) (v := .int .u8 (safe.toNat : Int)) (by rw [HF.out]; exact fill64_at _ hj64)
                  clear hjl
                  go_wp2_with fail
                  go_round
                  case rel => exact ⟨j + 1, by omega, by go_num⟩
                  case measure => simp [intOf]; omega
                · go_wp2_with fail
                  refine ⟨?_, by simp [intOf]⟩
                  (repeat apply Exists.intro)
                  exact ⟨⟨3, by omega, rfl, hb7'⟩, rfl⟩
            · have hpos : 0 < i := by omega
              have hp2 : (0 : Int) < (i : Int) := by omega
              obtain ⟨lx, hlx⟩ : ∃ lx, lx = l[i - 1]'(by have := HNL.out; omega) := ⟨_, rfl⟩
              have HLX := Lib.hid hlx
              clear hlx hi0
              have cr := Crash_any wr g gs gn _ 1 D hd _ (List.replicate i 65) (fun w' hk => hown.isKept HAP.out hk)
              obtain ⟨D6, hD6⟩ : ∃ D6, D6 = dStart (dCrash D (List.replicate i 65)) := ⟨_, rfl⟩
              have HOFF : Hid (D6.off = false) := by show _ = _; rw [hD6]; exact again_offA D _
              have e1 : D6.now = crashTo (opsOf l) (List.replicate i 65) [fill64 safe] (opsOf l).length := by
                rw [hD6]
                simp only [dStart, dCrash, HS'.out.1, HS'.out.2]
                simp
              have st := fun w5 vo5 hd5 => Start_any w5 g gs gn vo5 1 (dCrash D (List.replicate i 65)) hd5
              rw [← hD6] at st
              have E1 := Lib.hid e1
              clear hD6 e1 hd hown
              go_wp2_with fail
              refine cr.mono ?_
              rintro e w5 ⟨rfl, vo5, hd5, hk5, ho5⟩
              have hbb5 := hbel.trans (Hfar.out.below hk5 hbel.size)
              have Hfar5 := Lib.hid (Hfar.out.next ho5 hbel.size)
              have st5 := st w5 vo5 hd5
              clear cr st hd5 hbel hk5 ho5 Hfar HAP
              go_wp2_with fail
              refine st5.mono ?_
              rintro e w6 ⟨rfl, vo6, hd6, hk6, ho6⟩
              have hbb6 := hbb5.trans (Hfar5.out.below hk6 hbb5.size)
              have hja : 0 < D6.now.length := by rw [hd6.ok.now.1]; omega
              obtain ⟨b, hbe⟩ : ∃ b, D6.now[0]? = some b := ⟨_, List.getElem?_eq_getElem hja⟩
              have hbl : b.length = 64 := hd6.ok.now.2 b (List.mem_of_getElem? hbe)
              have rd := Read_on w6 g gs gn _ 1 D6 hd6 HOFF.out 0 (by omega) b hbe
              rw [E1.out] at hbe
              have HF : Hid (b = fill64 lx) := by
                show _ = _
                rw [opsOf_length, HNL.out, crash_all l safe _ (Nat.le_refl _)] at hbe
                have e9 := (Option.some.inj hbe).symm
                rw [e9, HLX.out]
                have hil : i = l.length := HNL.out
                subst hil
                simp [lastB, List.getD, show ¬ l.length = 0 by omega, List.getElem?_eq_getElem (show l.length - 1 < l.length by omega)]
              have HBL := Lib.hid hbl
              clear st5 hbb5 hk6 ho6 Hfar5 hbe hja hbl hd6 E1 HS'
              go_wp2_with fail
              refine rd.mono ?_
              rintro e w7 ⟨rfl, hb7⟩
              obtain ⟨q1, q2, q3⟩ := box_world w7 b HBL.out
              have hb7' := (hbb6.next hb7).next q1
              have Q3 := Lib.hid q3
              have Hsz := Lib.hid (size64_of HBL.out)
              have Q2 := Lib.hid q2
              clear rd hbb6 hb7 q1 q2 q3
              obtain ⟨bl2, offl2, rfl, _, hcl2⟩ := (h1.mono hb7').at (by have := HNL.out; omega)
              have hcz := hcl2 (i - 1) (by have := HNL.out; omega)
              rw [← HLX.out] at hcz
              have hco : ((i : Int) - 1).toNat = i - 1 := by omega
              clear hcl2
              go_wp2_with (first
                | (refine wpList_store_mid rfl 29 (.tmp 12) (.tmp 80) rfl w7.heap.size 0 (bvs b).toArray rfl rfl Q3.out (by simpa using Hsz.out) (all_oneCell_toArray (bs_oneCell _)) ?_; change wpList _ _ _ _ _ ((w7.alloc (.cells (bvs zero64).toArray 29)).setCells w7.heap.size 0 (bvs b)))
                | fail)
              have hun := Try.underlying29
              clear hcz hco
              go_loop [14] (fun q => ∃ j : Nat, j ≤ 64 ∧ q = .int .i64 j) (fun q => 64 - (intOf q).toNat)
              case atStart => exact ⟨0, by omega, rfl⟩
              case round =>
                obtain ⟨j, hj, rfl⟩ := hrel
                by_cases hj64 : j < 64
                · have hjl : j < b.length := by rw [HBL.out]; exact hj64
                  have hcell := Q2.out.cell (j := j) (v := .int .u8 (lx.toNat : Int)) (by rw [HF.out]; exact fill64_at _ hj64)
                  clear hjl
                  go_wp2_with fail
                  go_round
                  case rel => exact ⟨j + 1, by omega, by go_num⟩
                  case measure => simp [intOf]; omega
                · go_wp2_with fail
                  exact ⟨⟨3, by omega, rfl, hb7'⟩, by simp [intOf]⟩
    · go_wp2_with fail
      refine (wakes_any _).mono ?_
      rintro e w7 ⟨rfl, hb7⟩
      go_wp2_with fail
      go_ret
      exact ⟨rfl, hbel.next hb7⟩

end Cam
