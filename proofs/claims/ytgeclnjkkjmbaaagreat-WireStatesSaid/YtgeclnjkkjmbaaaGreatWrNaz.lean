import Derived.Test.YtgeclnjkkjmbaaaGreatWrOz
import Derived.Test.YtgeclnjkkjmbaaaGreatVa
import Derived.Test.YtgeclnjkkjmbaaaGreatWrH
import Derived.Deep.MidRow
/- Several small texts in one: WrD, WrNa. No condition. -/
namespace Cam
open Go Go.RowKit Go.Proofs
set_option linter.unusedVariables false
set_option linter.unusedSimpArgs false
set_option maxRecDepth 100000
set_option maxHeartbeats 1600000
def bL (wr : Bool) (l : List UInt8) : List UInt8 := if wr = true ∨ 65536 < l.length then [] else l
def bE (wr : Bool) (l : List UInt8) : Int := if wr = true ∨ 65536 < l.length then 6 else 0
def BytesPost (w : World) (wr : Bool) (l : List UInt8) (e : Ending) (w' : World) : Prop := ∃ a n c, e = .returned (.tuple #[.slice a n c, .int .i64 (bE wr l)]) ∧ OwnB 5 w' w.heap.size (.slice a n c) (bL wr l) ∧ Below w.heap.size w w'
theorem bytes_any (tw : TypeId) (w : World) (g : Nat) (v : Value) (l : List UInt8) (wr : Bool) (hp : PW tw [.bool wr] w g v l false) (hlen : l.length ≤ 70368744177664) :
  Calls Tryz.prog 24 #[.pointer (some ⟨g, 0, none⟩)] w (BytesPost w wr l) := by
 have by0 := WBytes_ok w g v l hp hlen
 have hc2 : w.cell? ⟨g, 2, none⟩ = some (.bool wr) := by
  unfold World.cell?
  rw [hp.1]
  rfl
 clear hp
 cases wr with
 | true =>
  have h1 : bL true l = [] ∧ bE true l = 6 := by unfold bL bE; simp
  go_in
  go_wp2_with fail
  refine by0.mono ?_
  rintro e w1 ⟨⟨r, rfl, ho⟩, hb⟩
  have c2 := (hb.cell (World.block_lt_of_cell? _ _ hc2)).trans hc2
  have HB := Lh hb
  have H1 := Lh h1
  clear hb hc2 h1 ho
  go_wp2_with fail
  go_ret2
  exact ⟨none, 0, 0, by rw [H1.out.2]; rfl, by rw [H1.out.1]; exact OwnB.empty _ _ _, HB.out⟩
 | false =>
  by_cases hlong : 65536 < l.length
  ·
   have h1 : bL false l = [] ∧ bE false l = 6 := by unfold bL bE; simp [hlong]
   go_in
   go_wp2_with fail
   refine by0.mono ?_
   rintro e w1 ⟨⟨r, rfl, ho⟩, hb⟩
   obtain ⟨a, n, c, rfl, hn, ho⟩ := OwnB.named ho
   have hnn : decide ((65536 : Int) < (n : Int)) = true := by have := hn.out; simp; omega
   have c2 := (hb.cell (World.block_lt_of_cell? _ _ hc2)).trans hc2
   have HB := Lh hb
   have H1 := Lh h1
   clear hb hc2 h1 ho hlong
   go_wp2_with fail
   go_ret2
   exact ⟨none, 0, 0, by rw [H1.out.2]; rfl, by rw [H1.out.1]; exact OwnB.empty _ _ _, HB.out⟩
  ·
   have h1 : bL false l = l ∧ bE false l = 0 := by unfold bL bE; simp [hlong]
   go_in
   go_wp2_with fail
   refine by0.mono ?_
   rintro e w1 ⟨⟨r, rfl, ho⟩, hb⟩
   obtain ⟨a, n, c, rfl, hn, ho⟩ := OwnB.named ho
   have hnn : decide ((65536 : Int) < (n : Int)) = false := by have := hn.out; simp; omega
   have c2 := (hb.cell (World.block_lt_of_cell? _ _ hc2)).trans hc2
   have HB := Lh hb
   have H1 := Lh h1
   have HO := Lh ho
   clear hb hc2 h1 ho hlong
   go_wp2_with fail
   go_ret2
   exact ⟨a, n, c, by rw [H1.out.2]; rfl, by rw [H1.out.1]; exact HO.out, HB.out⟩
theorem PW.new {w : World} {tw : TypeId} {rs : List Value} : PW tw rs (w.alloc (.cells (.slice none 0 0 :: .bool false :: rs).toArray tw)) w.heap.size (.slice none 0 0) [] false := ⟨heap_alloc_new w _, OwnB.empty _ _ _⟩
theorem PW.new3 {w : World} {tw : TypeId} {g : Nat} (hg : g = w.heap.size) : PW tw [.bool false] (w.alloc (.cells #[(), .bool false, .bool false] tw)) g (.slice none 0 0) [] false := by subst hg; exact PW.new
theorem PWPost.below {tw : TypeId} {rs : List Value} {w w1 w' : World} {g : Nat} {l : List UInt8} {lg : Bool} (h : PWPost tw rs w1 g (.slice none 0 0) l lg w') (hb : Below w.heap.size w w1) (hg : w.heap.size ≤ g) : ∃ v, PW tw rs w' g v l lg ∧ Below w.heap.size w w' := by
 obtain ⟨v, h1, h2, _⟩ := h
 refine ⟨v, h1, hb.trans (h2.below (fun k hk e => ?_) hb.size)⟩
 rcases e with e | e
 ·
  omega
 ·
  cases e
theorem encIs17_len (x0 x1 x2 x3 x4 x5 x6 x7 x8 x9 x10 x11 x12 x13 x14 x15 x16 : Int) (hr : ∀ n ∈ [x0, x1, x2, x3, x4, x5, x6, x7, x8, x9, x10, x11, x12, x13, x14, x15, x16], -9223372036854775808 ≤ n ∧ n ≤ 9223372036854775807) : (encIs [x0, x1, x2, x3, x4, x5, x6, x7, x8, x9, x10, x11, x12, x13, x14, x15, x16]).length ≤ 170 := encIs_length _ hr
theorem Cmd_any (w : World) (x0 x1 x2 x3 x4 x5 x6 x7 x8 x9 x10 x11 x12 x13 x14 x15 x16 : Int) (hr : ∀ n ∈ [x0, x1, x2, x3, x4, x5, x6, x7, x8, x9, x10, x11, x12, x13, x14, x15, x16], -9223372036854775808 ≤ n ∧ n ≤ 9223372036854775807) :
  Calls Tryz.prog 18 #[.agg #[x0, x1, x2, x3, x4, x5, x6, x7, x8, x9, x10, x11, x12, x13, x14, x15, x16]] w (RetB 5 w (encIs [x0, x1, x2, x3, x4, x5, x6, x7, x8, x9, x10, x11, x12, x13, x14, x15, x16])) := by
 have hb1 := (Below.refl w.heap.size w).alloc (Nat.le_refl _) (.cells #[x0, x1, x2, x3, x4, x5, x6, x7, x8, x9, x10, x11, x12, x13, x14, x15, x16] 59)
 have hb2 := hb1.alloc hb1.size (.cells #[(), .bool false, .bool false] 80)
 have hp := PW.new3 (w := w.alloc (.cells #[x0, x1, x2, x3, x4, x5, x6, x7, x8, x9, x10, x11, x12, x13, x14, x15, x16] 59)) (tw := 80) (g := w.heap.size + 1) (by simp)
 have hc : HT (w.alloc (.cells #[x0, x1, x2, x3, x4, x5, x6, x7, x8, x9, x10, x11, x12, x13, x14, x15, x16] 59)) w.heap.size 59 [x0, x1, x2, x3, x4, x5, x6, x7, x8, x9, x10, x11, x12, x13, x14, x15, x16] := HT.new (w := w)
 have hc2 := hc.below ((Below.refl _ _).alloc (Nat.le_refl _) (.cells #[(), .bool false, .bool false] 80))
 have cm := wcmd_any _ _ _ [] false x0 x1 x2 x3 x4 x5 x6 x7 x8 x9 x10 x11 x12 x13 x14 x15 x16 hp hr (by simp)
 have hle := encIs17_len x0 x1 x2 x3 x4 x5 x6 x7 x8 x9 x10 x11 x12 x13 x14 x15 x16 hr
 obtain ⟨L, hL⟩ : ∃ L, L = encIs [x0, x1, x2, x3, x4, x5, x6, x7, x8, x9, x10, x11, x12, x13, x14, x15, x16] := ⟨_, rfl⟩
 rw [List.nil_append, ← hL] at cm
 rw [← hL] at hle ⊢
 have HB2 := Lh hb2
 have c0 := hc2.cell (j := 0) (v := .int .i64 x0) rfl
 have c1 := hc2.cell (j := 1) (v := .int .i64 x1) rfl
 have c2 := hc2.cell (j := 2) (v := .int .i64 x2) rfl
 have c3 := hc2.cell (j := 3) (v := .int .i64 x3) rfl
 have c4 := hc2.cell (j := 4) (v := .int .i64 x4) rfl
 have c5 := hc2.cell (j := 5) (v := .int .i64 x5) rfl
 have c6 := hc2.cell (j := 6) (v := .int .i64 x6) rfl
 have c7 := hc2.cell (j := 7) (v := .int .i64 x7) rfl
 have c8 := hc2.cell (j := 8) (v := .int .i64 x8) rfl
 have c9 := hc2.cell (j := 9) (v := .int .i64 x9) rfl
 have c10 := hc2.cell (j := 10) (v := .int .i64 x10) rfl
 have c11 := hc2.cell (j := 11) (v := .int .i64 x11) rfl
 have c12 := hc2.cell (j := 12) (v := .int .i64 x12) rfl
 have c13 := hc2.cell (j := 13) (v := .int .i64 x13) rfl
 have c14 := hc2.cell (j := 14) (v := .int .i64 x14) rfl
 have c15 := hc2.cell (j := 15) (v := .int .i64 x15) rfl
 have c16 := hc2.cell (j := 16) (v := .int .i64 x16) rfl
 clear hb1 hb2 hp hc hc2 hr hL
 go_in
 go_wp2_with fail
 refine cm.mono ?_
 clear cm
 rintro e w2 ⟨rfl, hpo⟩
 obtain ⟨v, hp2, hb3⟩ := hpo.below HB2.out (by simp)
 have by0 := bytes_any _ w2 _ v L false hp2 (by omega)
 have hbl : bL false L = L ∧ bE false L = 0 := by unfold bL bE; simp; omega
 unfold BytesPost at by0
 rw [hbl.1, hbl.2] at by0
 have HB3 := Lh hb3
 clear hpo hp2 hb3 hbl c0 c1 c2 c3 c4 c5 c6 c7 c8 c9 c10 c11 c12 c13 c14 c15 c16
 go_wp2_with fail
 refine by0.mono ?_
 clear by0
 rintro e w3 ⟨a, n, c, rfl, ho, hb4⟩
 have HO := Lh ho
 have HB4 := Lh hb4
 clear ho hb4
 go_wp2_with fail
 go_ret
 exact ⟨_, rfl, OwnB.base HO.out HB3.out.size, HB3.out.trans (HB4.out.mono HB3.out.size)⟩
theorem encIs_app (a b : List Int) : encIs (a ++ b) = encIs a ++ encIs b := by simp [encIs]
def RetOnK (base : Nat) (w : World) (vb : Value) (l : List UInt8) (e : Ending) (w' : World) : Prop :=
 ∃ a n c, e = .returned (.slice a n c) ∧ OwnB 5 w' base (.slice a n c) l ∧ Kept (fun k => vb.ownBlock = some k) w w' ∧ ∀ k, (Value.slice a n c).ownBlock = some k → vb.ownBlock = some k ∨ w.heap.size ≤ k
theorem num_any (w : World) (base : Nat) (vb : Value) (lb : List UInt8) (vl : Value) (ys : List Int) (hb : OwnB 5 w base vb lb) (hl : Is w vl ys) (hr : ∀ n ∈ ys, -9223372036854775808 ≤ n ∧ n ≤ 9223372036854775807) (hlen : ys.length ≤ 100000) (hlb : lb.length ≤ 1000000000) (hbase : base ≤ w.heap.size) :
  Calls Tryz.prog 26 #[vb, vl] w (RetOnK base w vb (lb ++ encIs ys)) := by
 have en := rEncs_any w vl ys hl hr (by omega)
 have hle := encIs_length ys hr
 obtain ⟨a, n, c, rfl, Hn, hb⟩ := OwnB.named hb
 have HB := Lh hb
 clear hb hl hr
 go_in
 go_wp2_with fail
 refine en.mono ?_
 clear en
 rintro e w1 ⟨r, rfl, ho, hb1⟩
 obtain ⟨a3, n3, c3, rfl, Hn3, ho⟩ := OwnB.named ho
 have ho1 := OwnB.below HB.out hb1
 have hsz := hb1.size
 have HB1 := Lh hb1
 clear hb1
 go_wp2_with (first | (at_builtin; refine wpList_append_bytes_at (v := .slice a n c) rfl (.tmp 5) (.tmp 7) 42 rfl (l := lb) (m := encIs ys) (base := base) elem_byte rfl rfl ho1 (OwnB.bs ho) (by omega) (by omega) ?_; intro a' n' c' w' Hn' ho' hg' hat'))
 go_ret
 refine ⟨_, _, _, rfl, ho', ((Kept.of_below HB1.out).weaken (fun _ h => h.elim)).trans (Kept.of_grown hg') (fun _ _ h => h), fun k hk => ?_⟩
 rcases hat'.out with e | e
 ·
  rw [e] at hk
  exact .inl hk
 ·
  rw [e] at hk
  simp at hk
  have := HB1.out.size
  exact .inr (by omega)
theorem onK_next {base : Nat} {w wr wa w' : World} {vb v0 : Value} {l : List UInt8} {e : Ending} (hk : Kept (fun k => vb.ownBlock = some k) w wr) (ho : ∀ k, v0.ownBlock = some k → vb.ownBlock = some k ∨ w.heap.size ≤ k) (hb : Below wr.heap.size wr wa) (h : RetOnK base wa v0 l e w') :
  ∃ a n c, e = .returned (.slice a n c) ∧ OwnB 5 w' base (.slice a n c) l ∧ Kept (fun k => vb.ownBlock = some k) w w' ∧ (∀ k, (Value.slice a n c).ownBlock = some k → vb.ownBlock = some k ∨ w.heap.size ≤ k) ∧ Kept (fun k => v0.ownBlock = some k) wr w' := by
 obtain ⟨a, n, c, he, h1, h2, h3⟩ := h
 have h4 : Kept (fun k => v0.ownBlock = some k) wr w' := ((Kept.of_below hb).weaken (fun _ h => h.elim)).trans h2 (fun _ _ h => h)
 refine ⟨a, n, c, he, h1, hk.trans h4 (fun i hi e => ?_), fun k hk2 => ?_, h4⟩
 ·
  rcases ho i e with h | h
  ·
   exact h
  ·
   omega
 ·
  rcases h3 k hk2 with h | h
  ·
   exact ho k h
  ·
   exact .inr (Nat.le_trans hk.size (Nat.le_trans hb.size h))
theorem shifts_any (w : World) (base : Nat) (vb : Value) (lb : List UInt8) (y0 y1 y2 y3 y4 y5 : Int) (hb : OwnB 5 w base vb lb) (hr : ∀ n ∈ [y0, y1, y2, y3, y4, y5], -9223372036854775808 ≤ n ∧ n ≤ 9223372036854775807) (hlb : lb.length ≤ 10000000) (hbase : base ≤ w.heap.size) :
  Calls Tryz.prog 27 #[vb, .agg #[y0, y1, y2, y3, y4, y5]] w (RetOnK base w vb (lb ++ encIs [y0, y1, y2, y3, y4, y5])) := by
 obtain ⟨a, n, c, rfl, Hn, hb⟩ := OwnB.named hb
 have hbx := (Below.refl w.heap.size w).alloc (Nat.le_refl _) (.cells #[y0, y1, y2, y3, y4, y5] 57)
 have hc : HT (w.alloc (.cells #[y0, y1, y2, y3, y4, y5] 57)) w.heap.size 57 ([y0, y1, y2, y3, y4, y5].map (Value.int .i64)) := HT.new (w := w)
 have hb2 := OwnB.below hb hbx
 have hgv : (Value.slice a n c).ownBlock ≠ some w.heap.size := fun e => by have := OwnB.lt hb _ e; omega
 obtain ⟨zs, hzs⟩ : ∃ zs : List Int, zs = [y0, y1, y2, y3, y4, y5] := ⟨_, rfl⟩
 have hl6 : zs.length = 6 := by rw [hzs]; rfl
 rw [← hzs] at hc hr ⊢
 have HC := Lh hc
 have HB2 := Lh hb2
 have HBX := Lh hbx
 have HR := Lh hr
 have HL6 := Lh hl6
 have HGV := Lh hgv
 have HBASE := Lh (Nat.le_trans hbase hbx.size)
 clear hbx hc hb2 hb hr hl6 hzs hgv
 go_in
 go_wp2_with fail
 generalize hW : (w.alloc (.cells #[y0, y1, y2, y3, y4, y5] 57)) = W at *
 clear hW
 go_loopw [0, 5] (fun v0 v5 wr => ∃ (k : Nat) (a2 : Option Addr) (n2 c2 : Nat), k ≤ 6 ∧ v5 = .int .i64 k ∧ v0 = .slice a2 n2 c2 ∧ OwnB 5 wr base (.slice a2 n2 c2) (lb ++ encIs (zs.take k)) ∧ HT wr w.heap.size 57 (zs.map (Value.int .i64)) ∧ Kept (fun k => (Value.slice a n c).ownBlock = some k) W wr ∧ Hid (∀ k, (Value.slice a2 n2 c2).ownBlock = some k → (Value.slice a n c).ownBlock = some k ∨ W.heap.size ≤ k)) (fun _ i _ => 6 - (intOf i).toNat)
 case atStart => exact ⟨0, a, n, c, by omega, rfl, rfl, by simpa [encIs] using HB2.out, HC.out, Kept.refl _ _, fun k hk => .inl hk⟩
 case round =>
  obtain ⟨k, a2, n2, c2, hk, rfl, rfl, ho, hht, hkp, HOW⟩ := hrel
  have HO := Lh ho
  have HH := Lh hht
  have HKP := Lh hkp
  by_cases hlt : k < 6
  ·
   have hkl : k < zs.length := by have := HL6.out; omega
   have hcell := hht.cell (j := k) (v := .int .i64 zs[k]) (by rw [List.getElem?_map, List.getElem?_eq_getElem hkl]; rfl)
   obtain ⟨z, hz⟩ : ∃ z, z = zs[k] := ⟨_, rfl⟩
   have hzr := HR.out z (by rw [hz]; exact List.getElem_mem _)
   rw [← hz] at hcell
   have hel := encIs_length (zs.take k) (fun n hn => HR.out n (List.mem_of_mem_take hn))
   have hl2 : (zs.take k).length ≤ 6 := by rw [List.length_take]; omega
   have hba := (Below.refl wr.heap.size wr).alloc (Nat.le_refl _) (.cells #[z] 3)
   have nm := num_any (wr.alloc (.cells #[z] 3)) base (.slice a2 n2 c2) (lb ++ encIs (zs.take k)) _ [z] (OwnB.below ho hba) (Is.lit1 wr z 3) (by simpa using hzr) (by simp) (by rw [List.length_append]; omega) (Nat.le_trans (Nat.le_trans HBASE.out hkp.size) hba.size)
   have HZ := Lh hz
   have HBA := Lh hba
   clear ho hht hkp hz hel hba
   go_wp2_with fail
   refine nm.mono ?_
   clear nm
   rintro e w1 hpo
   obtain ⟨a3, n3, c3, rfl, ho3, hk3, how3, hk4⟩ := onK_next HKP.out HOW.out HBA.out hpo
   have HO3 := Lh ho3
   have HK3 := Lh hk3
   have HOW3 := Lh how3
   have HK4 := Lh hk4
   clear hpo ho3 hk3 how3 hk4
   go_wp2_with fail
   refine ⟨⟨k + 1, a3, n3, c3, by omega, by push_cast; rfl, rfl, ?_, ?_, HK3.out, HOW3.out⟩, by simp [intOf]; omega⟩
   ·
    rw [take_snoc zs k hkl, encIs_app, ← List.append_assoc, ← HZ.out]
    exact HO3.out
   ·
    refine HH.out.keptH HK4.out (fun e => ?_)
    rcases HOW.out _ e with h | h
    ·
     exact HGV.out h
    ·
     have := HC.out.lt
     omega
  ·
   obtain rfl : k = 6 := by omega
   go_wp2_with fail
   go_ret
   have hfin := HO.out
   rw [List.take_of_length_le (by have := HL6.out; omega)] at hfin
   refine ⟨_, _, _, rfl, hfin, ((Kept.of_below HBX.out).weaken (fun _ h => h.elim)).trans HKP.out (fun _ _ h => h), fun k hk => ?_⟩
   rcases HOW.out k hk with h | h
   ·
    exact .inl h
   ·
    exact .inr (Nat.le_trans HBX.out.size h)
end Cam
namespace Cam
open Go Go.RowKit Go.Proofs
set_option linter.unusedVariables false
set_option linter.unusedSimpArgs false
set_option maxRecDepth 100000
theorem eff_load_mid {P : Program} {op : Oper} {a : Act} {w : World} (ty : TypeId) (x : Operand) (ho : op.op = .load ty x)
  (b o : Nat) (hx : a.eval x = .pointer (some ⟨b, o, none⟩)) (cs : List Value) (d : TypeDesc) (hc : w.rangeAt b o cs)
  (hu : P.underlying ty = some d) (hd : d.isRow = true) (hi : (P.info? ty).map (·.size) = some cs.length) : EffR P (.agg cs.toArray) w ((execOp a.eval op).run P w) :=
 EffR.same (by
  unfold execOp
  simp only [ho, hx, Instr.loadAt, Instr.sureAddr, Sem.run_bind, Sem.run_pure, Result.andThen_ok, run_loadVar_mid w b o ty cs d hc hu hd hi])
def WK : List UInt8 := [0, 0, 6, 0, 0, 0, 0, 0, 0, 0, 0, 0, 0, 0, 0, 0, 0]
theorem wk_enc : encIs [0, 0, 3, 0, 0, 0, 0, 0, 0, 0, 0, 0, 0, 0, 0, 0, 0] = WK := by decide +kernel
theorem wk_read : (readC WK).1.getD 2 0 = 3 := by decide +kernel
theorem bgo {w w1 w2 : World} {g g2 : Nat} (h : Below g w w1) (h2 : Below g2 w1 w2) (hg : g ≤ g2) : Below g w w2 := h.trans (h2.mono hg)
theorem wakes_any (w : World) : Calls Tryz.prog 15 #[] w fun e w' => e = .returned (.bool true) ∧ Below w.heap.size w w' := by
 have wc := Cmd_any w 0 0 3 0 0 0 0 0 0 0 0 0 0 0 0 0 0 (by intro n hn; simp at hn; omega)
 rw [wk_enc] at wc
 go_in
 go_wp2_with fail
 refine wc.mono ?_
 clear wc
 rintro e w1 ⟨v, rfl, hown, hb⟩
 obtain ⟨a, cap, rfl, _, _⟩ := hown.bs.shape
 obtain ⟨b, off, rfl, _, hcell⟩ := hown.bs.at (by decide)
 have hc2 : w1.cell? ⟨b, off + 2, none⟩ = some (.int .u8 6) := hcell 2 (by decide)
 have kd := Kind_any w1 _ WK hown.bs (by decide)
 rw [wk_read] at kd
 have HBB := Lh hb
 rw [show WK.length = 17 from rfl] at kd ⊢
 clear hcell hown hb
 go_wp2_with fail
 refine kd.mono ?_
 clear kd
 rintro e w2 ⟨rfl, hb2⟩
 go_wp2_with fail
 go_ret
 exact ⟨rfl, HBB.out.next hb2⟩
theorem ivs_at {L : List Int} {j : Nat} (h : j < L.length) : (ivs L)[j]? = some (.int .i64 L[j]) := by
 rw [List.getElem?_map, List.getElem?_eq_getElem h]; rfl
end Cam
