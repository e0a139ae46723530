import Derived.Test.YtlnclfiiplpaiaaLeD
/- LogExact: the walk. -/
namespace Cam
open Go Go.RowKit Go.Proofs
def E6 (F : Nat → Prop) (w : World) (g q n : Nat) (D1 D2 : DK) : Prop := ∃ Fd Pd, DX w g Fd n D1 ∧ PX w q Pd n D2 ∧ (∀ k, Fd k → ¬ Pd k) ∧ ∀ k, F k ↔ Fd k ∨ Pd k
theorem E6.e5 {F : Nat → Prop} {w : World} {g q n : Nat} {D : DK} (h : E6 F w g q n D D) : E5 F w g q n D := h
theorem E6.below {F : Nat → Prop} {w w' : World} {g q n : Nat} {D1 D2 : DK} (h : E6 F w g q n D1 D2) (hb : Below w.heap.size w w') : E6 F w' g q n D1 D2 := by
 obtain ⟨Fd, Pd, h1, h2, h3, h4⟩ := h
 exact ⟨Fd, Pd, h1.below hb, h2.below hb, h3, h4⟩
theorem E6.lt {F : Nat → Prop} {w : World} {g q n : Nat} {D1 D2 : DK} (h : E6 F w g q n D1 D2) (k : Nat) (hk : F k) : k < w.heap.size := by
 obtain ⟨Fd, Pd, h1, h2, h3, h4⟩ := h
 rcases (h4 k).1 hk with e | e
 ·
  exact h1.lt k e
 ·
  exact h2.lt k e
def E6P (F : Nat → Prop) (w : World) (g q n : Nat) (D1 D2 : DK) (w' : World) : Prop := ∃ F', E6 F' w' g q n D1 D2 ∧ KC F w F' w'
theorem E6.stepD {F : Nat → Prop} {w : World} {g q n : Nat} {D1 D2 : DK} (h : E6 F w g q n D1 D2) : ∃ Fd, DX w g Fd n D1 ∧ (∀ k, Fd k → F k) ∧ ∀ w' D', DXPost w g Fd n D' w' → E6P F w g q n D' D2 w' := by
 obtain ⟨Fd, Pd, h1, h2, h3, h4⟩ := h
 refine ⟨Fd, h1, fun k e => (h4 k).2 (.inl e), fun w' D' hp => ?_⟩
 obtain ⟨F', k1, k2, k3⟩ := hp
 refine ⟨fun k => F' k ∨ Pd k, ⟨F', Pd, k1, h2.kept k2 (fun k e1 e2 => h3 k e2 e1), fun k e1 e2 => ?_, fun _ => Iff.rfl⟩, k2.weaken (fun k e => (h4 k).2 (.inl e)), fun k e => ?_⟩
 ·
  rcases k3 k e1 with e | e
  ·
   exact h3 k e e2
  ·
   have := h2.lt k e2; omega
 ·
  rcases e with e | e
  ·
   rcases k3 k e with e | e
   ·
    exact .inl ((h4 k).2 (.inl e))
   ·
    exact .inr e
  ·
   exact .inl ((h4 k).2 (.inr e))
theorem E6.stepQ {F : Nat → Prop} {w : World} {g q n : Nat} {D1 D2 : DK} (h : E6 F w g q n D1 D2) : ∃ Pd, PX w q Pd n D2 ∧ (∀ k, Pd k → F k) ∧ ∀ w' D', PXPost w q Pd n D' w' → E6P F w g q n D1 D' w' := by
 obtain ⟨Fd, Pd, h1, h2, h3, h4⟩ := h
 refine ⟨Pd, h2, fun k e => (h4 k).2 (.inr e), fun w' D' hp => ?_⟩
 obtain ⟨F', k1, k2, k3⟩ := hp
 refine ⟨fun k => Fd k ∨ F' k, ⟨Fd, F', h1.kept k2 (fun k e1 e2 => h3 k e1 e2), k1, fun k e1 e2 => ?_, fun _ => Iff.rfl⟩, k2.weaken (fun k e => (h4 k).2 (.inr e)), fun k e => ?_⟩
 ·
  rcases k3 k e2 with e | e
  ·
   exact h3 k e1 e
  ·
   have := h1.lt k e1; omega
 ·
  rcases e with e | e
  ·
   exact .inl ((h4 k).2 (.inl e))
  ·
   rcases k3 k e with e | e
   ·
    exact .inl ((h4 k).2 (.inr e))
   ·
    exact .inr e
theorem Crash_6 {F : Nat → Prop} (w : World) (g q n : Nat) (D D2 : DK) (h : E6 F w g q n D D2) (vp : Value) (picks : List Int) (hp : Stay F w (fun x => Is x vp picks)) :
  Calls Try.prog 26 #[.pointer (some ⟨g, 0, none⟩), vp] w fun e w' => e = .returned (.tuple #[]) ∧ E6P F w g q n (dCrash D picks) D2 w' := by
 obtain ⟨Fd, h1, h2, h3⟩ := h.stepD
 exact (Crash_x w g n Fd D h1 vp picks (fun w' hk => hp w' (hk.weaken h2))).mono fun _ _ ⟨he, hj⟩ => ⟨he, h3 _ _ hj⟩
theorem PCrash_6 {F : Nat → Prop} (w : World) (g q n : Nat) (D D2 : DK) (h : E6 F w g q n D D2) (vp : Value) (picks : List Int) (hp : Stay F w (fun x => Is x vp picks)) :
  Calls Try.prog 35 #[.pointer (some ⟨q, 0, none⟩), vp] w fun e w' => e = .returned (.tuple #[]) ∧ E6P F w g q n D (dCrash D2 picks) w' := by
 obtain ⟨Fd, h1, h2, h3⟩ := h.stepQ
 exact (PCrash_x w q n Fd D2 h1 vp picks (fun w' hk => hp w' (hk.weaken h2))).mono fun _ _ ⟨he, hj⟩ => ⟨he, h3 _ _ hj⟩
theorem Start_6 {F : Nat → Prop} (w : World) (g q n : Nat) (D D2 : DK) (h : E6 F w g q n D D2) :
  Calls Try.prog 27 #[.pointer (some ⟨g, 0, none⟩)] w fun e w' => e = .returned (.tuple #[]) ∧ E6P F w g q n (dStart D) D2 w' := by
 obtain ⟨Fd, h1, h2, h3⟩ := h.stepD
 exact (Start_x w g n Fd D h1).mono fun _ _ ⟨he, hj⟩ => ⟨he, h3 _ _ hj⟩
theorem PStart_6 {F : Nat → Prop} (w : World) (g q n : Nat) (D D2 : DK) (h : E6 F w g q n D D2) (ht : D2.torn = true → D2.off = true) :
  Calls Try.prog 36 #[.pointer (some ⟨q, 0, none⟩)] w fun e w' => e = .returned (.tuple #[]) ∧ E6P F w g q n D (dStart D2) w' := by
 obtain ⟨Fd, h1, h2, h3⟩ := h.stepQ
 exact (PStart_x w q n Fd D2 h1 ht).mono fun _ _ ⟨he, hj⟩ => ⟨he, h3 _ _ hj⟩
def RE (w : World) (px g q n k : Nat) (x : World) : Prop := ∃ (F : Nat → Prop) (gl rl : Nat) (D : DK) (T : LT), L5 F x g gl q rl n D T D T ∧ Inv n D T (4 * k) ∧ D.off = false ∧ HT x px 71 (pcl (.pointer (some ⟨gl, 0, none⟩)) g (.pointer (some ⟨rl, 0, none⟩)) q) ∧ ¬ F px ∧ ((∀ j, F j → w.heap.size ≤ j) ∧ w.heap.size ≤ px) ∧ Below w.heap.size w x
set_option maxRecDepth 100000 in
set_option maxHeartbeats 12800000 in
theorem LogExact_walk (w : World) (n0 : Int) (v1 : Value) (ls : List ActL) (h1 : Als w v1 ls) :
  Calls Try.prog 10 #[.int .i64 n0, v1] w fun e w' => e = .returned (.bool true) ∧ Below w.heap.size w w' := by
 obtain ⟨a1, c1, rfl, hc1, hm1⟩ := h1.shape
 obtain ⟨N, hN⟩ : ∃ z, z = ls.length := ⟨_, rfl⟩
 rw [← hN] at h1 hc1 ⊢
 have H1 := Lib.hid h1
 have HN := Lib.hid hN
 have hhv := heavyL_any w _ ls h1
 clear h1 hN
 go_enter Try.func10, Try.ntmps10
 go_wp2_with fail
 refine hhv.mono ?_
 clear hhv
 rintro e w' ⟨⟨b, rfl, hlight⟩, rfl⟩
 cases b with
 | true =>
  go_wp2_with fail
  go_ret
  exact ⟨rfl, Below.refl _ _⟩
 | false =>
  have HLT := Lib.hid (hlight rfl)
  clear hlight
  by_cases hn1 : n0 < 1
  ·
   go_wp2_with fail
   go_ret
   exact ⟨rfl, Below.refl _ _⟩
  by_cases hn3 : 300 < n0
  ·
   have hn1' : decide (n0 < 1) = false := by simpa using hn1
   go_wp2_with fail
   go_ret
   exact ⟨rfl, Below.refl _ _⟩
  have hn1' : decide (n0 < 1) = false := by simpa using hn1
  have hn3' : decide (300 < n0) = false := by simpa using hn3
  obtain ⟨n, rfl⟩ : ∃ n : Nat, n0 = (n : Int) := ⟨n0.toNat, by omega⟩
  have hnb : 1 ≤ n ∧ n ≤ 300 := by omega
  have hnw := New_x w n (by omega) (by omega)
  go_wp2_with fail
  refine hnw.mono ?_
  clear hnw
  rintro e w1 ⟨g, Fd, rfl, hd1, hf1, hb1⟩
  have hpn := PNew_x w1 n (by omega) (by omega)
  have HD1 := Lib.hid hd1
  have HF1 := Lib.hid hf1
  have HB1 := Lib.hid hb1
  clear hd1 hf1 hb1
  go_wp2_with fail
  refine hpn.mono ?_
  clear hpn
  rintro e w2 ⟨q, Pd, rfl, hd2, hf2, hb2⟩
  obtain ⟨px, hpx⟩ : ∃ z, z = w2.heap.size := ⟨_, rfl⟩
  obtain ⟨w3, hw3⟩ : ∃ z, z = w2.alloc (.cells #[.pointer none, .pointer (some ⟨g, 0, none⟩), .pointer none, .pointer (some ⟨q, 0, none⟩)] 71) := ⟨_, rfl⟩
  have hx3 : HT w3 px 71 (pcl (.pointer none) g (.pointer none) q) := by rw [hw3, hpx]; exact HT.new
  have hb3 : Below w2.heap.size w2 w3 := by rw [hw3]; exact (Below.refl _ _).alloc (Nat.le_refl _) _
  have he5 : E5 (fun k => Fd k ∨ Pd k) w3 g q n (DK.new n) := ⟨Fd, Pd, (HD1.out.below hb2).below hb3, hd2.below hb3, fun k e1 e2 => by have := HD1.out.lt k e1; have := hf2 k e2; omega, fun _ => Iff.rfl⟩
  have hlt2 : ∀ k, Fd k ∨ Pd k → w.heap.size ≤ k ∧ k < w2.heap.size := fun k e => by
   have hs1 := HB1.out.size
   rcases e with e | e
   ·
    have := HD1.out.lt k e; have := HF1.out k e; have := hb2.size; omega
   ·
    have := hd2.lt k e; have := hf2 k e; omega
  have HE5 := Lib.hid he5
  have HX3 := Lib.hid hx3
  have HL2 := Lib.hid hlt2
  have HB3 : Hid (Below w.heap.size w w3) := (HB1.out.next hb2).next hb3
  have HPB : Hid (w.heap.size ≤ px ∧ px < w3.heap.size ∧ px = w2.heap.size) := ⟨by have := HB1.out.size; have := hb2.size; omega, hx3.lt, hpx⟩
  have HW3 := Lib.hid hw3
  have HPX0 := Lib.hid hpx
  have hnp : ¬ (Fd px ∨ Pd px) := fun e => by have := hlt2 px e; omega
  clear hd2 hf2 hb2 hb3 he5 hx3 hlt2 hpx hw3
  by_cases hn4 : 4 ≤ n
  ·
   have hop := open_any _ w3 px g q n (DK.new n) _ _ HX3.out HE5.out hnp rfl hn4
   rw [HW3.out, HPX0.out] at hop
   clear hnp
   go_wp2_with fail
   refine hop.mono ?_
   clear hop
   rw [← HPX0.out, ← HW3.out]
   rintro e w4 ⟨rfl, F4, vl4, vr4, hx4, hk4, hf4, h4⟩
   have HRE : Hid (RE w px g q n 0 w4) := by
    rcases h4 with ⟨ho, _⟩ | ⟨ho, gl, rl, rfl, rfl, hl4⟩
    ·
     cases ho
    ·
     refine ⟨F4, gl, rl, DK.new n, _, hl4, Inv.open hn4 hnb.2 hl4.now rfl (fun e => by cases e) (Nat.zero_le _), rfl, hx4, fun e => ?_, ⟨fun j e => ?_, HPB.out.1⟩, HB3.out.trans (hk4.below (fun j hj e => by have := HPB.out.1; omega) HB3.out.size)⟩
     ·
      rcases hf4 px e with e | e
      ·
       have := HL2.out px e; have := HPB.out.2.2; omega
      ·
       have := HPB.out.2.1; omega
     ·
      rcases hf4 j e with e | e
      ·
       exact (HL2.out j e).1
      ·
       have := HB3.out.size; omega
   clear hx4 hk4 hf4 h4
   have hn3 : n ≤ 300 := hnb.2
   clear HE5 HX3 HL2 HB3 HPB HW3 HPX0 HD1 HF1 HB1
   go_wp2_with fail
   go_loopw [8] (fun i wr => ∃ k : Nat, k ≤ N ∧ k ≤ 60 ∧ i = .int .i64 k ∧ Hid (RE w px g q n k wr)) (fun i _ => 60 - (intOf i).toNat)
   case atStart => exact ⟨0, Nat.zero_le _, by omega, rfl, HRE⟩
   case round =>
    obtain ⟨k, hk, hk6, rfl, HR⟩ := hrel
    clear HRE
    obtain ⟨F, gl, rl, D, T, hl, hi, hoff, hx, hpx, hfw, hbw⟩ := HR.out
    have HL := Lib.hid hl
    have HI := Lib.hid hi
    have HOFF := Lib.hid hoff
    have HX := Lib.hid hx
    have HPX := Lib.hid hpx
    have HFG := Lib.hid hfw
    have HBW0 := Lib.hid hbw
    have hcx := hx.cell (j := 0) rfl
    clear hl hi hoff hx hpx hfw hbw
    by_cases hkk : k < N ∧ k < 60
    ·
     obtain ⟨hkN, hk60⟩ := hkk
     have hkl : k < ls.length := by have := HN.out; omega
     obtain ⟨ab, ao, rfl, habw, hat⟩ := Als.at H1.out (by omega)
     obtain ⟨v2, v3, v4, hcs, h2, h3, h4, _, hnum⟩ := hat k hkl
     obtain ⟨a2, c2, rfl, _, _⟩ := h2.shape
     obtain ⟨a3, c3, rfl, _, _⟩ := h3.len
     obtain ⟨a4, c4, rfl, _, _⟩ := h4.shape
     obtain ⟨l1, l2, l3, l4⟩ := HLT.out.2 k hkl hk60
     obtain ⟨do_, hdo⟩ : ∃ z, z = ls[k].do_ := ⟨_, rfl⟩
     obtain ⟨num, hnm⟩ : ∃ z, z = ls[k].num := ⟨_, rfl⟩
     obtain ⟨bl, hbl⟩ : ∃ z, z = ls[k].b := ⟨_, rfl⟩
     obtain ⟨rows, hrows⟩ : ∃ z, z = ls[k].rows := ⟨_, rfl⟩
     obtain ⟨pk, hpk⟩ : ∃ z, z = ls[k].picks := ⟨_, rfl⟩
     rw [← hbl] at hcs h2 l1
     rw [← hrows] at hcs h3 l2 l4
     rw [← hpk] at hcs h4
     rw [← hdo, ← hnm] at hcs
     rw [← hnm] at hnum
     obtain ⟨m2, hm2⟩ : ∃ z, z = bl.length := ⟨_, rfl⟩
     obtain ⟨m3, hm3⟩ : ∃ z, z = rows.length := ⟨_, rfl⟩
     obtain ⟨m4, hm4⟩ : ∃ z, z = pk.length := ⟨_, rfl⟩
     rw [← hm2] at hcs h2
     rw [← hm3] at hcs h3
     rw [← hm4] at hcs h4
     obtain ⟨L, hrl, hro⟩ := h3.rs
     have hac : ∀ x, Below w.heap.size w x → ∀ j u, [Value.int .i64 do_, .int .i64 num, .slice a2 m2 c2, .slice a3 m3 c3, .slice a4 m4 c4][j]? = some u → x.cell? ⟨ab, ao + k * 5 + j, none⟩ = some u := fun x hb j u hu => (Below.cell (p := ⟨ab, ao + k * 5 + j, none⟩) hb habw).trans (hcs j u hu)
     have q0 := hac wr HBW0.out 0 _ rfl
     have q1 := hac wr HBW0.out 1 _ rfl
     have q2 := hac wr HBW0.out 2 _ rfl
     have q3 := hac wr HBW0.out 3 _ rfl
     have q4 := hac wr HBW0.out 4 _ rfl
     rw [Nat.add_zero] at q0
     have HAC := Lib.hid hac
     have HAB := Lib.hid habw
     have hst : ∀ {P : World → Prop}, (∀ x, Below w.heap.size w x → P x) → Stay F wr P := fun h x hk => h x (HBW0.out.trans (hk.below (fun j hj e => by have := HFG.out.1 j e; omega) HBW0.out.size))
     have hsp := step_any F wr px g gl q rl n (4 * k) D T HL.out HI.out (by omega) HOFF.out HX.out HPX.out do_ num bl rows pk a2 a3 a4 m2 c2 m3 c3 m4 c4 L (hst (fun x hb => h2.mono hb)) (hst (fun x hb => ⟨hrl.mono hb, hro.mono hb⟩)) (hst (fun x hb => h4.mono hb)) l1 l2 l4 hnum
     have H4 := Lib.hid h4
     have hk0 : (0 : Int) ≤ k ∧ (k : Int) < N ∧ (k : Int) < 60 := by omega
     clear hat hcs h2 h3 h4 l1 l2 l3 l4 hdo hnm hbl hrows hpk hm2 hm3 hm4 hrl hro hac habw hst hnum
     go_wp2_with fail
     refine hsp.mono ?_
     clear hsp q0 q1 q2 q3 q4 hcx
     rintro e W ⟨rfl, F2, Dx, vl, vr, hkw, hf2, hx2, hpost⟩
     have hbw2 : Below w.heap.size w W := HBW0.out.trans (hkw.below (fun j hj e => by
      rcases e with e | e
      ·
       have := HFG.out.1 j e; omega
      ·
       have := HFG.out.2; omega) HBW0.out.size)
     have hpx2 : ¬ F2 px := fun e => by
      rcases hf2 px e with e | e
      ·
       exact HPX.out e
      ·
       have := HX.out.lt; omega
     have HFW : Hid (∀ j, F2 j → w.heap.size ≤ j) := fun j e => by
      rcases hf2 j e with e | e
      ·
       exact HFG.out.1 j e
      ·
       have := HBW0.out.size; omega
     have HBW := Lib.hid hbw2
     have HXW := Lib.hid hx2
     have HPX2 := Lib.hid hpx2
     have HPB : Hid (w.heap.size ≤ px) := HFG.out.2
     have hcx3 := hx2.cell (j := 3) rfl
     clear hkw hf2 hx2 hbw2 hpx2
     rcases hpost with ⟨hoffx, he5, hdi⟩ | ⟨honx, gl2, rl2, T2, rfl, rfl, hl2, hi2⟩
     ·
      have hoc : W.cell? ⟨q, 3, none⟩ = some (.bool true) := by
       obtain ⟨_, Pd, _, h9, _⟩ := he5
       rw [← hoffx]
       exact h9.cell3
      have HPXW : Hid (px < W.heap.size) := HXW.out.lt
      have HE0 : Hid (E6 F2 W g q n Dx Dx) := he5
      obtain ⟨F, hF⟩ : ∃ z, z = F2 := ⟨_, rfl⟩
      rw [← hF] at HE0 HFW HPX2
      have HPX : Hid (¬ F px) := HPX2.out
      have HC0 : Hid (KC F W F W) := KC.refl F W
      have HS : Hid (Stay F W (fun x => HT x px 71 (pcl vl g vr q) ∧ x.cell? ⟨ab, ao + k * 5 + 4, none⟩ = some (.slice a4 m4 c4))) := fun x hk => ⟨HXW.out.keptJ hk HPX.out, HAC.out x (HBW.out.trans (hk.below (fun j hj e => by have := HFW.out j e; omega) HBW.out.size)) 4 _ rfl⟩
      have HV4 : Hid (Stay F W (fun y => Is y (.slice a4 m4 c4) pk)) := fun x hk => H4.out.mono (HBW.out.trans (hk.below (fun j hj e => by have := HFW.out j e; omega) HBW.out.size))
      obtain ⟨Dc, hDc⟩ : ∃ z, z = dCrash Dx pk := ⟨_, rfl⟩
      obtain ⟨Ds, hDs⟩ : ∃ z, z = dStart Dc := ⟨_, rfl⟩
      have HDC := Lib.hid hDc
      have HDS := Lib.hid hDs
      have HDI : Hid (Ds.now = sets Ds.syn Ds.op ∧ (Ds.torn = true → Ds.off = true) ∧ Ds.op.length ≤ 4000 ∧ Ds.off = false) := by
       have h9 := start_crash Dx pk 0
       have h8 : (dStart (dCrash Dx pk)).off = false := by unfold dStart; split <;> rfl
       show _ ∧ _
       rw [hDs, hDc]
       exact ⟨h9.1, h9.2.1, h9.2.2, h8⟩
      clear he5 hdi hF hDc hDs hoffx HL HI HOFF HX HFG HBW0 HPX2 HR
      go_upto_region 15 with fail
      clear hcx3 hoc
      refine wp_region_uni (S0 := (fun x => HT x px 71 (pcl vl g vr q) ∧ x.cell? ⟨ab, ao + k * 5 + 4, none⟩ = some (.slice a4 m4 c4))) (S := BL W) 10 (by kernel_rfl) (Below.refl _ _).drew ?_
      refine wpAnyU_take (i := 0) (oi := { dst := some 69, op := Op.move (Operand.tmp 7), type := 66, pos := "law.go:147", after := #[], guard := none }) (v := (.pointer (some ⟨px, 0, none⟩))) rfl (by kernel_rfl) (by kernel_rfl) (by kernel_rfl) (by kernel_rfl) (by kernel_rfl) (fun _ _ _ h => h) (HC0.out.cls HS.out) ?_ ?_
      ·
       refine Or.inl ⟨rfl, fun w hSw => ?_⟩
       exact EffR.same (by go_simp)
      try simp only [Act.put, zA, zB, zC]
      refine wpAnyU_take (i := 1) (oi := { dst := some 70, op := Op.nilCheck (Operand.tmp 69), type := 0, pos := "law.go:147", after := #[{ on := 0, ground := Ground.data }], guard := none }) (v := (.pointer (some ⟨px, 0, none⟩))) rfl (by kernel_rfl) (by kernel_rfl) (by kernel_rfl) (by kernel_rfl) (by kernel_rfl) (fun _ _ _ h => h) (HC0.out.cls HS.out) ?_ ?_
      ·
       refine Or.inl ⟨rfl, fun w hSw => ?_⟩
       exact EffR.same (by go_simp)
      try simp only [Act.put, zA, zB, zC]
      refine wpAnyU_take (i := 2) (oi := { dst := some 71, op := Op.fieldAddr 71 (Operand.tmp 70) 1, type := 0, pos := "law.go:147", after := #[{ on := 1, ground := Ground.data }], guard := none }) (v := (.pointer (some ⟨px, 1, none⟩))) rfl (by kernel_rfl) (by kernel_rfl) (by kernel_rfl) (by kernel_rfl) (by kernel_rfl) (fun _ _ _ h => h) (HC0.out.cls HS.out) ?_ ?_
      ·
       refine Or.inl ⟨rfl, fun w hSw => ?_⟩
       exact EffR.same (by go_simp)
      try simp only [Act.put, zA, zB, zC]
      refine wpAnyU_take (i := 3) (oi := { dst := some 72, op := Op.load 26 (Operand.tmp 71), type := 26, pos := "law.go:147", after := #[{ on := 2, ground := Ground.data }], guard := none }) (v := (.pointer (some ⟨g, 0, none⟩))) rfl (by kernel_rfl) (by kernel_rfl) (by kernel_rfl) (by kernel_rfl) (by kernel_rfl) (fun _ _ _ h => h) (HC0.out.cls HS.out) ?_ ?_
      ·
       refine Or.inl ⟨rfl, fun w hSw => ?_⟩
       have e0 := hSw.1.cell (j := 1) rfl
       exact EffR.same (by go_simp)
      try simp only [Act.put, zA, zB, zC]
      refine wpAnyU_take (i := 4) (oi := { dst := some 73, op := Op.move (Operand.tmp 1), type := 64, pos := "law.go:147", after := #[], guard := none }) (v := (.slice (some ⟨ab, ao, none⟩) N c1)) rfl (by kernel_rfl) (by kernel_rfl) (by kernel_rfl) (by kernel_rfl) (by kernel_rfl) (fun _ _ _ h => h) (HC0.out.cls HS.out) ?_ ?_
      ·
       refine Or.inl ⟨rfl, fun w hSw => ?_⟩
       exact EffR.same (by go_simp)
      try simp only [Act.put, zA, zB, zC]
      refine wpAnyU_take (i := 5) (oi := { dst := some 74, op := Op.move (Operand.tmp 8), type := 3, pos := "law.go:147", after := #[], guard := none }) (v := (.int .i64 (k : Int))) rfl (by kernel_rfl) (by kernel_rfl) (by kernel_rfl) (by kernel_rfl) (by kernel_rfl) (fun _ _ _ h => h) (HC0.out.cls HS.out) ?_ ?_
      ·
       refine Or.inl ⟨rfl, fun w hSw => ?_⟩
       exact EffR.same (by go_simp)
      try simp only [Act.put, zA, zB, zC]
      refine wpAnyU_take (i := 6) (oi := { dst := some 75, op := Op.indexAddr 64 (Operand.tmp 73) (Operand.tmp 74), type := 0, pos := "law.go:147", after := #[{ on := 4, ground := Ground.data }, { on := 5, ground := Ground.data }], guard := none }) (v := (.pointer (some ⟨ab, ao + k * 5, none⟩))) rfl (by kernel_rfl) (by kernel_rfl) (by kernel_rfl) (by kernel_rfl) (by kernel_rfl) (fun _ _ _ h => h) (HC0.out.cls HS.out) ?_ ?_
      ·
       refine Or.inl ⟨rfl, fun w hSw => ?_⟩
       have hq : ¬ N ≤ k := (by omega)
       exact EffR.same (by go_simp)
      try simp only [Act.put, zA, zB, zC]
      refine wpAnyU_take (i := 7) (oi := { dst := some 76, op := Op.fieldAddr 74 (Operand.tmp 75) 4, type := 0, pos := "law.go:147", after := #[{ on := 6, ground := Ground.data }], guard := none }) (v := (.pointer (some ⟨ab, ao + k * 5 + 4, none⟩))) rfl (by kernel_rfl) (by kernel_rfl) (by kernel_rfl) (by kernel_rfl) (by kernel_rfl) (fun _ _ _ h => h) (HC0.out.cls HS.out) ?_ ?_
      ·
       refine Or.inl ⟨rfl, fun w hSw => ?_⟩
       exact EffR.same (by go_simp)
      try simp only [Act.put, zA, zB, zC]
      refine wpAnyU_take (i := 8) (oi := { dst := some 77, op := Op.load 46 (Operand.tmp 76), type := 46, pos := "law.go:147", after := #[{ on := 7, ground := Ground.data }], guard := none }) (v := (.slice a4 m4 c4)) rfl (by kernel_rfl) (by kernel_rfl) (by kernel_rfl) (by kernel_rfl) (by kernel_rfl) (fun _ _ _ h => h) (HC0.out.cls HS.out) ?_ ?_
      ·
       refine Or.inl ⟨rfl, fun w hSw => ?_⟩
       have e0 := hSw.2
       exact EffR.same (by go_simp)
      try simp only [Act.put, zA, zB, zC]
      refine wpAnyU_ready (rs := [9]) (by kernel_rfl) (by simp) ?_
      refine AllReadyU.cons (o := { dst := some 78, op := Op.call { callee := Callee.value (Operand.func 26), args := #[Operand.tmp 72, Operand.tmp 77], argTypes := #[26, 46] }, type := 0, pos := "law.go:147", after := #[{ on := 3, ground := Ground.data }, { on := 8, ground := Ground.data }], guard := none }) rfl (fun wA9 hA9 K hK => ?_) AllReadyU.nil
      have hs := Crash_6 wA9 g q n Dx Dx (HE0.out.below hA9) (.slice a4 m4 c4) pk ((HC0.out.below hA9).stay HV4.out)
      rw [← HDC.out] at hs
      go_simp
      refine hs.mono ?_
      clear hs
      rintro e0 w1 ⟨rfl, F1, hl1, hc1⟩
      have HE1 := Lib.hid hl1
      have HC1 : Hid (KC F W F1 w1) := (HC0.out.below hA9).next hc1
      refine hK.out _ _ (BL w1) (HC1.out.cls HS.out) (Below.refl _ _) ?_
      clear hl1 hc1
      clear hK K
      try simp only [Act.put, zA, zB, zC]
      refine wpAnyU_done (by kernel_rfl) (fun w2 hb1 => ?_) _
      have HE2 := Lib.hid (HE1.out.below hb1)
      have HC2 := Lib.hid (HC1.out.below hb1)
      clear hb1
      go_upto_region 16 with fail
      refine wp_region_uni (S0 := (fun x => HT x px 71 (pcl vl g vr q) ∧ x.cell? ⟨ab, ao + k * 5 + 4, none⟩ = some (.slice a4 m4 c4))) (S := BL w2) 10 (by kernel_rfl) (Below.refl _ _).drew ?_
      refine wpAnyU_take (i := 0) (oi := { dst := some 79, op := Op.move (Operand.tmp 7), type := 66, pos := "law.go:148", after := #[], guard := none }) (v := (.pointer (some ⟨px, 0, none⟩))) rfl (by kernel_rfl) (by kernel_rfl) (by kernel_rfl) (by kernel_rfl) (by kernel_rfl) (fun _ _ _ h => h) (HC2.out.cls HS.out) ?_ ?_
      ·
       refine Or.inl ⟨rfl, fun w hSw => ?_⟩
       exact EffR.same (by go_simp)
      try simp only [Act.put, zA, zB, zC]
      refine wpAnyU_take (i := 1) (oi := { dst := some 80, op := Op.nilCheck (Operand.tmp 79), type := 0, pos := "law.go:148", after := #[{ on := 0, ground := Ground.data }], guard := none }) (v := (.pointer (some ⟨px, 0, none⟩))) rfl (by kernel_rfl) (by kernel_rfl) (by kernel_rfl) (by kernel_rfl) (by kernel_rfl) (fun _ _ _ h => h) (HC2.out.cls HS.out) ?_ ?_
      ·
       refine Or.inl ⟨rfl, fun w hSw => ?_⟩
       exact EffR.same (by go_simp)
      try simp only [Act.put, zA, zB, zC]
      refine wpAnyU_take (i := 2) (oi := { dst := some 81, op := Op.fieldAddr 71 (Operand.tmp 80) 3, type := 0, pos := "law.go:148", after := #[{ on := 1, ground := Ground.data }], guard := none }) (v := (.pointer (some ⟨px, 3, none⟩))) rfl (by kernel_rfl) (by kernel_rfl) (by kernel_rfl) (by kernel_rfl) (by kernel_rfl) (fun _ _ _ h => h) (HC2.out.cls HS.out) ?_ ?_
      ·
       refine Or.inl ⟨rfl, fun w hSw => ?_⟩
       exact EffR.same (by go_simp)
      try simp only [Act.put, zA, zB, zC]
      refine wpAnyU_take (i := 3) (oi := { dst := some 82, op := Op.load 67 (Operand.tmp 81), type := 67, pos := "law.go:148", after := #[{ on := 2, ground := Ground.data }], guard := none }) (v := (.pointer (some ⟨q, 0, none⟩))) rfl (by kernel_rfl) (by kernel_rfl) (by kernel_rfl) (by kernel_rfl) (by kernel_rfl) (fun _ _ _ h => h) (HC2.out.cls HS.out) ?_ ?_
      ·
       refine Or.inl ⟨rfl, fun w hSw => ?_⟩
       have e0 := hSw.1.cell (j := 3) rfl
       exact EffR.same (by go_simp)
      try simp only [Act.put, zA, zB, zC]
      refine wpAnyU_take (i := 4) (oi := { dst := some 83, op := Op.move (Operand.tmp 1), type := 64, pos := "law.go:148", after := #[], guard := none }) (v := (.slice (some ⟨ab, ao, none⟩) N c1)) rfl (by kernel_rfl) (by kernel_rfl) (by kernel_rfl) (by kernel_rfl) (by kernel_rfl) (fun _ _ _ h => h) (HC2.out.cls HS.out) ?_ ?_
      ·
       refine Or.inl ⟨rfl, fun w hSw => ?_⟩
       exact EffR.same (by go_simp)
      try simp only [Act.put, zA, zB, zC]
      refine wpAnyU_take (i := 5) (oi := { dst := some 84, op := Op.move (Operand.tmp 8), type := 3, pos := "law.go:148", after := #[], guard := none }) (v := (.int .i64 (k : Int))) rfl (by kernel_rfl) (by kernel_rfl) (by kernel_rfl) (by kernel_rfl) (by kernel_rfl) (fun _ _ _ h => h) (HC2.out.cls HS.out) ?_ ?_
      ·
       refine Or.inl ⟨rfl, fun w hSw => ?_⟩
       exact EffR.same (by go_simp)
      try simp only [Act.put, zA, zB, zC]
      refine wpAnyU_take (i := 6) (oi := { dst := some 85, op := Op.indexAddr 64 (Operand.tmp 83) (Operand.tmp 84), type := 0, pos := "law.go:148", after := #[{ on := 4, ground := Ground.data }, { on := 5, ground := Ground.data }], guard := none }) (v := (.pointer (some ⟨ab, ao + k * 5, none⟩))) rfl (by kernel_rfl) (by kernel_rfl) (by kernel_rfl) (by kernel_rfl) (by kernel_rfl) (fun _ _ _ h => h) (HC2.out.cls HS.out) ?_ ?_
      ·
       refine Or.inl ⟨rfl, fun w hSw => ?_⟩
       have hq : ¬ N ≤ k := (by omega)
       exact EffR.same (by go_simp)
      try simp only [Act.put, zA, zB, zC]
      refine wpAnyU_take (i := 7) (oi := { dst := some 86, op := Op.fieldAddr 74 (Operand.tmp 85) 4, type := 0, pos := "law.go:148", after := #[{ on := 6, ground := Ground.data }], guard := none }) (v := (.pointer (some ⟨ab, ao + k * 5 + 4, none⟩))) rfl (by kernel_rfl) (by kernel_rfl) (by kernel_rfl) (by kernel_rfl) (by kernel_rfl) (fun _ _ _ h => h) (HC2.out.cls HS.out) ?_ ?_
      ·
       refine Or.inl ⟨rfl, fun w hSw => ?_⟩
       exact EffR.same (by go_simp)
      try simp only [Act.put, zA, zB, zC]
      refine wpAnyU_take (i := 8) (oi := { dst := some 87, op := Op.load 46 (Operand.tmp 86), type := 46, pos := "law.go:148", after := #[{ on := 7, ground := Ground.data }], guard := none }) (v := (.slice a4 m4 c4)) rfl (by kernel_rfl) (by kernel_rfl) (by kernel_rfl) (by kernel_rfl) (by kernel_rfl) (fun _ _ _ h => h) (HC2.out.cls HS.out) ?_ ?_
      ·
       refine Or.inl ⟨rfl, fun w hSw => ?_⟩
       have e0 := hSw.2
       exact EffR.same (by go_simp)
      try simp only [Act.put, zA, zB, zC]
      refine wpAnyU_ready (rs := [9]) (by kernel_rfl) (by simp) ?_
      refine AllReadyU.cons (o := { dst := some 88, op := Op.call { callee := Callee.value (Operand.func 35), args := #[Operand.tmp 82, Operand.tmp 87], argTypes := #[67, 46] }, type := 0, pos := "law.go:148", after := #[{ on := 3, ground := Ground.data }, { on := 8, ground := Ground.data }], guard := none }) rfl (fun wA9 hA9 K hK => ?_) AllReadyU.nil
      have hs := PCrash_6 wA9 g q n Dc Dx (HE2.out.below hA9) (.slice a4 m4 c4) pk ((HC2.out.below hA9).stay HV4.out)
      rw [← HDC.out] at hs
      go_simp
      refine hs.mono ?_
      clear hs
      rintro e0 w3 ⟨rfl, F3, hl3, hc3⟩
      have HE3 := Lib.hid hl3
      have HC3 : Hid (KC F W F3 w3) := (HC2.out.below hA9).next hc3
      refine hK.out _ _ (BL w3) (HC3.out.cls HS.out) (Below.refl _ _) ?_
      clear hl3 hc3
      clear hK K
      try simp only [Act.put, zA, zB, zC]
      refine wpAnyU_done (by kernel_rfl) (fun w4 hb1 => ?_) _
      have HE4 := Lib.hid (HE3.out.below hb1)
      have HC4 := Lib.hid (HC3.out.below hb1)
      clear hb1
      have hc1 := (HC4.out.here HS.out).1.cell (j := 1) rfl
      have hst := Start_6 w4 g q n Dc Dc HE4.out
      rw [← HDS.out] at hst
      go_wp2_with fail
      refine hst.mono ?_
      clear hst hc1
      rintro e w5 ⟨rfl, F5, hl5, hk5⟩
      have HE5 := Lib.hid hl5
      have HC5 : Hid (KC F W F5 w5) := HC4.out.next hk5
      clear hl5 hk5
      have hc3 := (HC5.out.here HS.out).1.cell (j := 3) rfl
      have hst := PStart_6 w5 g q n Ds Dc HE5.out (by rw [HDC.out]; exact fun e => rfl)
      rw [← HDS.out] at hst
      go_wp2_with fail
      refine hst.mono ?_
      clear hst hc3
      rintro e w6 ⟨rfl, F6, hl6, hk6⟩
      have HE6 := Lib.hid hl6
      have HC6 : Hid (KC F W F6 w6) := HC5.out.next hk6
      clear hl6 hk6
      have hxp := (HC6.out.here HS.out).1
      have hop := open_any F6 w6 px g q n Ds _ _ hxp HE6.out.e5 (fun e => (HC6.out.2 px e).elim HPX.out (fun e2 => by have := HPXW.out; omega)) HDI.out.1 hn4
      clear hxp
      go_wp2_with fail
      refine hop.mono ?_
      clear hop
      rintro e w9 ⟨rfl, F9, vl9, vr9, hx9, hk9, hf9, h9⟩
      obtain ⟨gl2, rl2, rfl, rfl, hl9⟩ : ∃ gl rl, vl9 = .pointer (some ⟨gl, 0, none⟩) ∧ vr9 = .pointer (some ⟨rl, 0, none⟩) ∧ L5 F9 w9 g gl q rl n Ds (openT n Ds.now) Ds (openT n Ds.now) := by
       rcases h9 with ⟨ho, _⟩ | ⟨_, h⟩
       ·
        rw [HDI.out.2.2.2] at ho; cases ho
       ·
        exact h
      obtain ⟨T9, hT9⟩ : ∃ z, z = openT n Ds.now := ⟨_, rfl⟩
      have HI9 : Hid (Inv n Ds T9 (4 * (k + 1))) := by
       show Inv _ _ _ _
       rw [hT9]
       exact Inv.open hn4 hn3 hl9.now HDI.out.1 HDI.out.2.1 (by have := HDI.out.2.2.1; omega)
      rw [← hT9] at hl9
      have HL9 := Lib.hid hl9
      have HX9 := Lib.hid hx9
      have HFG : Hid (∀ j, F9 j → w.heap.size ≤ j) := fun j e => by
       have hz1 := HBW.out.size
       have hz2 := HC6.out.1.size
       rcases hf9 j e with e | e
       ·
        rcases HC6.out.2 j e with e | e
        ·
         exact HFW.out j e
        ·
         omega
       ·
        omega
      have HFP : Hid (¬ F9 px ∧ w.heap.size ≤ px) := ⟨fun e => by
       have hz2 := HC6.out.1.size
       rcases hf9 px e with e | e
       ·
        rcases HC6.out.2 px e with e | e
        ·
         exact HPX.out e
        ·
         have := HPXW.out; omega
       ·
        have := HPXW.out; omega, HPB.out⟩
      have HB9 : Hid (Below w.heap.size w w9) := by
       have h1 := HBW.out.trans (HC6.out.1.below (fun j hj e => by have := HFW.out j e; omega) HBW.out.size)
       exact h1.trans (hk9.below (fun j hj e => by have := HPB.out; omega) h1.size)
      clear hx9 hk9 hf9 h9 hl9 hT9
      have hcx0 := HX9.out.cell (j := 0) rfl
      have hsm := same_any F9 w9 px g gl2 q rl2 n (4 * (k + 1)) Ds T9 HL9.out HI9.out (by omega) HDI.out.2.2.2 HX9.out
      have HRE : Hid (∀ y, Below w9.heap.size w9 y → RE w px g q n (k + 1) y) := fun y hb => ⟨F9, gl2, rl2, Ds, T9, HL9.out.below hb, HI9.out, HDI.out.2.2.2, HX9.out.below hb, HFP.out.1, ⟨HFG.out, HFP.out.2⟩, HB9.out.next hb⟩
      go_wp2_with fail
      refine hsm.mono ?_
      clear hsm hcx0
      rintro e wz ⟨rfl, hbz⟩
      have HRZ := Lib.hid (HRE.out wz hbz)
      clear hbz
      go_wp2_with fail
      exact ⟨⟨k + 1, by omega, by omega, by push_cast; rfl, HRZ⟩, by simp [intOf]; omega⟩
     ·
      have hoc : W.cell? ⟨q, 3, none⟩ = some (.bool false) := by
       obtain ⟨_, _, _, ⟨Pd, _, _, h9, _⟩, _⟩ := hl2
       rw [← honx]
       exact h9.cell3
      have HL2 := Lib.hid hl2
      have HI2 : Hid (Inv n Dx T2 (4 * (k + 1))) := hi2.upto (by omega)
      have HON := Lib.hid honx
      clear hl2 hi2 honx HR
      have hcx0 := HXW.out.cell (j := 0) rfl
      have hsm := same_any F2 W px g gl2 q rl2 n (4 * (k + 1)) Dx T2 HL2.out HI2.out (by omega) HON.out HXW.out
      have HRE : Hid (∀ y, Below W.heap.size W y → RE w px g q n (k + 1) y) := fun y hb => ⟨F2, gl2, rl2, Dx, T2, HL2.out.below hb, HI2.out, HON.out, HXW.out.below hb, HPX2.out, ⟨HFW.out, HPB.out⟩, HBW.out.next hb⟩
      go_wp2_with fail
      refine hsm.mono ?_
      clear hsm hcx0
      rintro e wz ⟨rfl, hbz⟩
      have HRZ := Lib.hid (HRE.out wz hbz)
      clear hbz
      go_wp2_with fail
      exact ⟨⟨k + 1, by omega, by omega, by push_cast; rfl, HRZ⟩, by simp [intOf]; omega⟩
    ·
     by_cases hkN : k < N
     ·
      have hk60 : decide ((k : Int) < 60) = false := by simp; omega
      have hk60' : (60 : Int) ≤ k := by omega
      have hkNi : (k : Int) < N := by omega
      have hwk := wakes_any wr
      go_wp2_with fail
      refine hwk.mono ?_
      clear hwk
      rintro e w5 ⟨rfl, hb5⟩
      go_wp2_with fail
      go_ret
      exact ⟨rfl, HBW0.out.next hb5⟩
     ·
      have hkNi : decide ((k : Int) < (N : Int)) = false := by simp; omega
      have hkNj : (N : Int) ≤ k := by omega
      have hwk := wakes_any wr
      go_wp2_with fail
      refine hwk.mono ?_
      clear hwk
      rintro e w5 ⟨rfl, hb5⟩
      go_wp2_with fail
      go_ret
      exact ⟨rfl, HBW0.out.next hb5⟩
  ·
   have hop := open_few5 _ w3 px g q n (DK.new n) _ _ HX3.out HE5.out rfl (by omega)
   rw [HW3.out, HPX0.out] at hop
   clear hnp
   go_wp2_with fail
   refine hop.mono ?_
   clear hop
   rw [← HPX0.out, ← HW3.out]
   rintro e w4 ⟨rfl, hx4, hk4⟩
   have hc0 := hx4.cell (j := 0) rfl
   have HB4 : Hid (Below w.heap.size w w4) := HB3.out.trans (hk4.below (fun j hj e => by have := HPB.out.1; omega) HB3.out.size)
   have hwk := wakes_any w4
   clear hx4 hk4
   by_cases hN0 : 0 < N
   ·
    have hN1 : (0 : Int) < N := by omega
    go_wp2_with fail
    go_loopw [8] (fun i wr => i = .int .i64 0 ∧ wr = w4) (fun i _ => 0)
    case atStart => exact ⟨rfl, rfl⟩
    case round =>
     obtain ⟨rfl, rfl⟩ := hrel
     go_wp2_with fail
     refine hwk.mono ?_
     clear hwk
     rintro e w5 ⟨rfl, hb5⟩
     go_wp2_with fail
     go_ret
     exact ⟨rfl, HB4.out.next hb5⟩
   ·
    have hN1 : decide ((0 : Int) < (N : Int)) = false := by simp; omega
    have hN2 : N = 0 := by omega
    subst hN2
    go_wp2_with fail
    go_loopw [8] (fun i wr => i = .int .i64 0 ∧ wr = w4) (fun i _ => 0)
    case atStart => exact ⟨rfl, rfl⟩
    case round =>
     obtain ⟨rfl, rfl⟩ := hrel
     go_wp2_with fail
     refine hwk.mono ?_
     clear hwk
     rintro e w5 ⟨rfl, hb5⟩
     go_wp2_with fail
     go_ret
     exact ⟨rfl, HB4.out.next hb5⟩
end Cam
