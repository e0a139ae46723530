import Derived.Test.YtlnclfiiplpaiaaLeA
import Derived.Test.YtlnclfiiplpaiaaOpenS
/- LogExact: acts as arguments; heavy; open. -/
namespace Cam
open Go Go.RowKit Go.Proofs Go.ChangeShapes Go.WideShapes Go.ChangeAt
structure ActL where
 do_ : Int
 num : Int
 b : List UInt8
 rows : List (List UInt8)
 picks : List Int
def AlOk (w : World) (cs : List Value) (x : ActL) : Prop := ∃ v2 v3 v4, cs = [.int .i64 x.do_, .int .i64 x.num, v2, v3, v4] ∧ Bs w v2 x.b ∧ Bss w v3 x.rows ∧ Is w v4 x.picks ∧ (-9223372036854775808 ≤ x.do_ ∧ x.do_ ≤ 9223372036854775807) ∧ (-9223372036854775808 ≤ x.num ∧ x.num ≤ 9223372036854775807)
def Als (w : World) (v : Value) (ls : List ActL) : Prop := ∃ css : List (List Value), css.length = ls.length ∧ Sl w v 5 ls.length css.flatten ∧ ∀ i (h : i < css.length) (h' : i < ls.length), AlOk w css[i] ls[i]
theorem AlOk.len {w : World} {cs : List Value} {x : ActL} (h : AlOk w cs x) : cs.length = 5 := by
 obtain ⟨v2, v3, v4, rfl, _⟩ := h
 rfl
theorem Als.shape {w : World} {v : Value} {ls : List ActL} (h : Als w v ls) : ∃ a c, v = .slice a ls.length c ∧ ls.length ≤ c ∧ c ≤ 9223372036854775807 := by
 obtain ⟨css, h1, h2, h3⟩ := h
 exact Sl.shape h2
theorem Als.at {w : World} {a : Option Addr} {n c : Nat} {ls : List ActL} (h : Als w (.slice a n c) ls) (hp : 0 < ls.length) :
  ∃ b off, a = some ⟨b, off, none⟩ ∧ b < w.heap.size ∧ ∀ i (hi : i < ls.length), ∃ v2 v3 v4, (∀ j u, [.int .i64 ls[i].do_, .int .i64 ls[i].num, v2, v3, v4][j]? = some u → w.cell? ⟨b, off + i * 5 + j, none⟩ = some u) ∧ Bs w v2 ls[i].b ∧ Bss w v3 ls[i].rows ∧ Is w v4 ls[i].picks ∧ (-9223372036854775808 ≤ ls[i].do_ ∧ ls[i].do_ ≤ 9223372036854775807) ∧ (-9223372036854775808 ≤ ls[i].num ∧ ls[i].num ≤ 9223372036854775807) := by
 obtain ⟨css, h1, h2, h3⟩ := h
 have h5 : ∀ a ∈ css, (id a).length = 5 := fun a ha => by
  obtain ⟨i, hi, rfl⟩ := List.getElem_of_mem ha
  exact (h3 i hi (by omega)).len
 have hfl : css.flatten = flatW id css := by simp [flatW]
 rw [hfl] at h2
 have hl := flatW_length h5
 obtain ⟨b, off, rfl, hb, hc⟩ := Sl.at h2 (by rw [hl]; omega)
 refine ⟨b, off, rfl, hb, fun i hi => ?_⟩
 obtain ⟨v2, v3, v4, e, k2, k3, k4, k5, k6⟩ := h3 i (by omega) hi
 refine ⟨v2, v3, v4, fun j u hu => ?_, k2, k3, k4, k5, k6⟩
 rw [← e] at hu
 have h9 := flatW_at (f := id) (W := 5) h5 (k := i) (by omega) j u hu
 have h8 := (List.getElem?_eq_some_iff.1 h9)
 obtain ⟨hlt, h8⟩ := h8
 have := hc (i * 5 + j) hlt
 rw [h8, ← Nat.add_assoc] at this
 exact this
theorem lacts_of {w : World} : ∀ {css : List (List Value)}, (∀ c ∈ css, ∃ x, AlOk w c x) → ∃ ls : List ActL, css.length = ls.length ∧ ∀ i (h : i < css.length) (h' : i < ls.length), AlOk w css[i] ls[i]
 | [], _ => ⟨[], rfl, fun i h => absurd h (Nat.not_lt_zero _)⟩
 | c :: css, h => by
  obtain ⟨x, hx⟩ := h c (by simp)
  obtain ⟨ls, h1, h2⟩ := lacts_of (css := css) (fun c hc => h c (by simp [hc]))
  refine ⟨x :: ls, by simp [h1], fun i a b => ?_⟩
  cases i with
  | zero => exact hx
  | succ i => exact h2 i (by simpa using a) (by simpa using b)
set_option maxRecDepth 100000 in
theorem opens_lact : Opens Try.prog 74 (fun w cs => ∃ x, AlOk w cs x) :=
 (Opens.struct (Q := fun i w cs => if i = 2 then ∃ (v : Value) (l : List UInt8), cs = [v] ∧ Bs w v l ∧ l.length ≤ 140737488351232 else if i = 3 then ∃ (v : Value) (ls : List (List UInt8)), cs = [v] ∧ ls.length * 24 ≤ 140737488351232 ∧ Bss w v ls ∧ ∀ l ∈ ls, l.length ≤ 140737488351232
   else if i = 4 then ∃ (v : Value) (l : List Int), cs = [v] ∧ l.length * 8 ≤ 140737488351232 ∧ Sl w v 1 l.length (l.map (.int .i64)) ∧ ∀ n ∈ l, (Lit.int .i64 n).wf = true else ∃ n, cs = [.int .i64 n] ∧ (Lit.int .i64 n).wf = true) Try.underlying74 (by
  intro i f hf
  match i, hf with
  | 0, hf => simp at hf; subst hf; exact Opens.int Try.underlying3
  | 1, hf => simp at hf; subst hf; exact Opens.int Try.underlying3
  | 2, hf => simp at hf; subst hf; exact Opens.bytes Try.underlying22 Try.underlying5 (by kernel_rfl) (by kernel_rfl)
  | 3, hf => simp at hf; subst hf; exact Opens.rows (bytes := 24) Try.underlying23 Try.underlying22 Try.underlying5 (by kernel_rfl) (by kernel_rfl) (by kernel_rfl) (by kernel_rfl)
  | 4, hf => simp at hf; subst hf; exact Opens.ints (bytes := 8) Try.underlying46 Try.underlying3 (by kernel_rfl) (by kernel_rfl)
  | i + 5, hf => simp at hf)).mono fun w cs ⟨hl, hq⟩ => by
  have hc : Try.prog.cellsOf 74 = 5 := by kernel_rfl
  rw [hc] at hl
  match cs, hl with
  | [u0, u1, u2, u3, u4], _ =>
   have h0 := hq 0 _ rfl
   have h1 := hq 1 _ rfl
   have h2 := hq 2 _ rfl
   have h3 := hq 3 _ rfl
   have h4 := hq 4 _ rfl
   obtain ⟨n0, e0, k0⟩ : ∃ n, [u0] = [Value.int .i64 n] ∧ (Lit.int .i64 n).wf = true := h0
   obtain ⟨n1, e1, k1⟩ : ∃ n, [u1] = [Value.int .i64 n] ∧ (Lit.int .i64 n).wf = true := h1
   obtain ⟨v2, l2, e2, k2, _⟩ : ∃ (v : Value) (l : List UInt8), [u2] = [v] ∧ Bs w v l ∧ l.length ≤ 140737488351232 := h2
   obtain ⟨v3, l3, e3, _, k3, _⟩ : ∃ (v : Value) (ls : List (List UInt8)), [u3] = [v] ∧ ls.length * 24 ≤ 140737488351232 ∧ Bss w v ls ∧ ∀ l ∈ ls, l.length ≤ 140737488351232 := h3
   obtain ⟨v4, l4, e4, _, k4, _⟩ : ∃ (v : Value) (l : List Int), [u4] = [v] ∧ l.length * 8 ≤ 140737488351232 ∧ Sl w v 1 l.length (l.map (.int .i64)) ∧ ∀ n ∈ l, (Lit.int .i64 n).wf = true := h4
   simp only [List.cons.injEq, and_true] at e0 e1 e2 e3 e4
   subst e0 e1 e2 e3 e4
   exact ⟨⟨n0, n1, l2, l3, l4⟩, _, _, _, rfl, k2, k3, k4, i64_of_wf k0, i64_of_wf k1⟩
theorem open_lacts {W : World} {v : Value} (h : ArgOk Try.prog W 64 v) : ∃ ls, Als W v ls := by
 have h1 := h.single Try.underlying64
 obtain ⟨v', css, h2, _, h4, h5⟩ := h.2 _ (Opens.slice Try.underlying64 (size := 5) (by kernel_rfl) rfl opens_lact)
 rw [h1] at h2
 cases h2
 obtain ⟨ls, e1, e2⟩ := lacts_of (fun c hc => (h5 c hc).2)
 rw [e1] at h4
 exact ⟨ls, css, e1, h4, e2⟩
def Light (x : ActL) : Prop := x.b.length ≤ 2000 ∧ x.rows.length ≤ 20 ∧ x.picks.length ≤ 2000 ∧ ∀ r ∈ x.rows, r.length ≤ 2000
def HeavyL (w : World) (ls : List ActL) (e : Ending) (w' : World) : Prop := (∃ b : Bool, e = .returned (.bool b) ∧ (b = false → ls.length ≤ 240 ∧ ∀ i (h : i < ls.length), i < 60 → Light ls[i])) ∧ w = w'
theorem HeavyL.yes {w : World} {ls : List ActL} : HeavyL w ls (.returned (.bool true)) w := ⟨⟨true, rfl, fun e => by cases e⟩, rfl⟩
set_option maxHeartbeats 1600000 in
theorem heavyL_any (w : World) (v : Value) (ls : List ActL) (h : Als w v ls) : Calls Try.prog 31 #[v] w (HeavyL w ls) := by
 obtain ⟨a, c, rfl, hc, hm⟩ := h.shape
 obtain ⟨N, hN⟩ : ∃ z, z = ls.length := ⟨_, rfl⟩
 rw [← hN] at h hc ⊢
 have HN := Lib.hid hN
 have H := Lib.hid h
 clear hN h
 by_cases h12 : (240 : Int) < N
 ·
  go_enter Try.func31, Try.ntmps31
  go_wp2_with fail
  go_ret
  exact HeavyL.yes
 ·
  have h12' : decide (240 < N) = false := by simp; omega
  have HL : Hid (ls.length ≤ 240) := by show _ ≤ _; have := HN.out; omega
  go_enter Try.func31, Try.ntmps31
  go_wp2_with fail
  go_loop [3] (fun i => ∃ k : Nat, k ≤ N ∧ i = .int .i64 k ∧ Hid (∀ i (h : i < ls.length), i < k → Light ls[i])) (fun i => N - (intOf i).toNat)
  case atStart => exact ⟨0, Nat.zero_le _, rfl, fun i h e => absurd e (Nat.not_lt_zero _)⟩
  case round =>
   obtain ⟨k, hk, rfl, HSO⟩ := hrel
   by_cases hlt : k < N
   ·
    by_cases hk3 : k < 60
    ·
     have hkl : k < ls.length := by have := HN.out; omega
     obtain ⟨b, off, rfl, _, hx⟩ := Als.at H.out (by omega)
     obtain ⟨v2, v3, v4, hcs, hb2, hb3, hb4, _⟩ := hx k hkl
     obtain ⟨a2, c2, rfl, _, _⟩ := hb2.shape
     obtain ⟨a3, c3, rfl, _, _⟩ := hb3.len
     obtain ⟨a4, c4, rfl, _, _⟩ := hb4.shape
     obtain ⟨m2, hm2⟩ : ∃ z, z = ls[k].b.length := ⟨_, rfl⟩
     obtain ⟨m3, hm3⟩ : ∃ z, z = ls[k].rows.length := ⟨_, rfl⟩
     obtain ⟨m4, hm4⟩ : ∃ z, z = ls[k].picks.length := ⟨_, rfl⟩
     rw [← hm2, ← hm3, ← hm4] at hcs
     rw [← hm3] at hb3
     have hcell2 : w.cell? ⟨b, off + k * 5 + 2, none⟩ = some (.slice a2 m2 c2) := hcs 2 _ rfl
     have hcell3 : w.cell? ⟨b, off + k * 5 + 3, none⟩ = some (.slice a3 m3 c3) := hcs 3 _ rfl
     have hcell4 : w.cell? ⟨b, off + k * 5 + 4, none⟩ = some (.slice a4 m4 c4) := hcs 4 _ rfl
     have hk0 : (0 : Int) ≤ k ∧ (k : Int) < N ∧ (k : Int) < 60 := by omega
     have HM2 := Lib.hid hm2
     have HM3 := Lib.hid hm3
     have HM4 := Lib.hid hm4
     have HB3 := Lib.hid hb3
     clear hx hcs hb2 hb3 hb4 hm2 hm3 hm4
     by_cases h2 : 2000 < m2
     ·
      have h2' : decide ((2000 : Int) < (m2 : Int)) = true := by simp; omega
      go_wp2_with fail
      go_ret
      exact HeavyL.yes
     have h2' : decide ((2000 : Int) < (m2 : Int)) = false := by simp; omega
     by_cases h3 : 20 < m3
     ·
      have h3' : decide ((20 : Int) < (m3 : Int)) = true := by simp; omega
      go_wp2_with fail
      go_ret
      exact HeavyL.yes
     have h3' : decide ((20 : Int) < (m3 : Int)) = false := by simp; omega
     by_cases h4 : 2000 < m4
     ·
      have h4' : decide ((2000 : Int) < (m4 : Int)) = true := by simp; omega
      go_wp2_with fail
      go_ret
      exact HeavyL.yes
     have h4' : decide ((2000 : Int) < (m4 : Int)) = false := by simp; omega
     have hm20 : (m3 : Int) ≤ 20 := by omega
     go_wp2_with fail
     go_loop [4] (fun i => ∃ j : Nat, j ≤ m3 ∧ i = .int .i64 j ∧ Hid (∀ i (h : i < ls[k].rows.length), i < j → ls[k].rows[i].length ≤ 2000)) (fun i => m3 - (intOf i).toNat)
     case atStart => exact ⟨0, Nat.zero_le _, rfl, fun i h e => absurd e (Nat.not_lt_zero _)⟩
     case round =>
      obtain ⟨j, hj, rfl, HJO⟩ := hrel
      by_cases hjl : j < m3
      ·
       have hjl2 : j < ls[k].rows.length := by have := HM3.out; omega
       obtain ⟨b3, off3, rfl, hcx⟩ := Bss.at1 HB3.out (by omega)
       obtain ⟨⟨s1, s2, s3⟩, hs, hbs⟩ := hcx j hjl2
       have hcell : w.cell? ⟨b3, off3 + j, none⟩ = some (.slice s1 s2 s3) := hs
       have HS2 : Hid (s2 = ls[k].rows[j].length) := by
        obtain ⟨a8, c8, e8, _⟩ := hbs.shape
        simp only [SV.v, Value.slice.injEq] at e8
        exact e8.2.1
       have hj0 : (0 : Int) ≤ j ∧ (j : Int) < m3 := by omega
       clear hcx hs hbs
       by_cases h5 : 2000 < s2
       ·
        have h5' : decide ((2000 : Int) < (s2 : Int)) = true := by simp; omega
        go_wp2_with fail
        go_ret
        exact HeavyL.yes
       have h5' : decide ((2000 : Int) < (s2 : Int)) = false := by simp; omega
       go_wp2_with fail
       refine ⟨⟨j + 1, by omega, by push_cast; rfl, fun i hi e => ?_⟩, by simp [intOf]; omega⟩
       by_cases hij : i < j
       ·
        exact HJO.out i hi hij
       ·
        obtain rfl : i = j := by omega
        rw [← HS2.out]
        omega
      ·
       obtain rfl : j = m3 := by omega
       go_wp2_with fail
       refine ⟨⟨k + 1, by omega, by push_cast; rfl, fun i hi e => ?_⟩, by simp [intOf]; omega⟩
       by_cases hij : i < k
       ·
        exact HSO.out i hi hij
       ·
        obtain rfl : i = k := by omega
        refine ⟨by rw [← HM2.out]; omega, by rw [← HM3.out]; omega, by rw [← HM4.out]; omega, fun r hr => ?_⟩
        obtain ⟨z, hz, rfl⟩ := List.getElem_of_mem hr
        exact HJO.out z hz (by rw [HM3.out]; exact hz)
    ·
     have hk3' : decide (k < 60) = false := by simp; omega
     have hk3'' : decide ((k : Int) < 60) = false := by simp; omega
     go_wp2_with fail
     go_ret
     exact ⟨⟨false, rfl, fun _ => ⟨HL.out, fun i h e => HSO.out i h (by omega)⟩⟩, rfl⟩
   ·
    obtain rfl : k = N := by omega
    go_wp2_with fail
    go_ret
    exact ⟨⟨false, rfl, fun _ => ⟨HL.out, fun i h e => HSO.out i h (by rw [HN.out]; exact h)⟩⟩, rfl⟩
def pcl (vl : Value) (g : Nat) (vr : Value) (q : Nat) : List Value := [vl, .pointer (some ⟨g, 0, none⟩), vr, .pointer (some ⟨q, 0, none⟩)]
def OpenedP (F : Nat → Prop) (w : World) (px g q n : Nat) (D : DK) (e : Ending) (w' : World) : Prop :=
 e = .returned (.bool true) ∧ ∃ F' gl rl, L5 F' w' g gl q rl n D (openT n D.now) D (openT n D.now) ∧ HT w' px 71 (pcl (.pointer (some ⟨gl, 0, none⟩)) g (.pointer (some ⟨rl, 0, none⟩)) q) ∧ Kept (fun k => k = px) w w' ∧ ∀ k, F' k → F k ∨ w.heap.size ≤ k
set_option maxHeartbeats 800000 in
theorem open_5 (F : Nat → Prop) (w : World) (px g q n : Nat) (D : DK) (vl vr : Value) (hx : HT w px 71 (pcl vl g vr q)) (h : E5 F w g q n D) (hpx : ¬ F px) (hoff : D.off = false) (hfull : D.now = sets D.syn D.op) (hn : 4 ≤ n) :
  Calls Try.prog 33 #[.pointer (some ⟨px, 0, none⟩)] w (OpenedP F w px g q n D) := by
 obtain ⟨Fd, Pd, h1, h2, h3, h4⟩ := h
 have hx1 := hx.cell (j := 1) rfl
 have ho := Open_ok w g n Fd D h1 hoff hn
 have HX := Lib.hid hx
 have H1 := Lib.hid h1
 have H2 := Lib.hid h2
 have H3 := Lib.hid h3
 have H4 := Lib.hid h4
 have HPX := Lib.hid hpx
 have HF := Lib.hid hfull
 have HO := Lib.hid hoff
 clear hx h1 h2 h3 h4 hpx hoff hfull
 go_enter Try.func33, Try.ntmps33
 go_wp2_with fail
 refine ho.mono ?_
 clear ho hx1
 rintro e w1 ⟨gl, Fl, rfl, hl, hfl, hb1⟩
 have hx3 := (HX.out.below hb1).cell (j := 3) rfl
 have ho := POpen_ok w1 q n Pd D (H2.out.below hb1) HF.out HO.out hn
 have HL := Lib.hid hl
 have HFL := Lib.hid hfl
 have HB1 := Lib.hid hb1
 clear hl hfl hb1
 go_wp2_with fail
 refine ho.mono ?_
 clear ho hx3
 rintro e w2 ⟨rl, hf, Fr, rfl, hr, hfr, hhf, hfr2, hb2⟩
 have hX2 := (HX.out.below HB1.out).below hb2
 have c0 := hX2.cell (j := 0) rfl
 have f0 := hX2.frozen 0
 have c2 := hX2.cell (j := 2) rfl
 have f2 := hX2.frozen 2
 have HX2 := Lib.hid hX2
 have HR := Lib.hid hr
 have HFR := Lib.hid hfr
 have HHF := Lib.hid hhf
 have HFR2 := Lib.hid hfr2
 have HB2 := Lib.hid hb2
 clear hX2 hr hfr hhf hfr2 hb2
 have HW : Hid (HT ((w2.setCell ⟨px, 0, none⟩ (.pointer (some ⟨gl, 0, none⟩))).setCell ⟨px, 2, none⟩ (.pointer (some ⟨rl, 0, none⟩))) px 71 (pcl (.pointer (some ⟨gl, 0, none⟩)) g (.pointer (some ⟨rl, 0, none⟩)) q)) := (HX2.out.put 0 (.pointer (some ⟨gl, 0, none⟩))).put 2 (.pointer (some ⟨rl, 0, none⟩))
 have HK : Hid (Kept (fun k => k = px) w2 ((w2.setCell ⟨px, 0, none⟩ (.pointer (some ⟨gl, 0, none⟩))).setCell ⟨px, 2, none⟩ (.pointer (some ⟨rl, 0, none⟩)))) := ((Kept.refl (fun k => k = px) w2).setCell ⟨px, 0, none⟩ _ rfl).setCell ⟨px, 2, none⟩ _ rfl
 go_wp2_with fail
 clear c0 f0 c2 f2
 generalize ((w2.setCell ⟨px, 0, none⟩ (.pointer (some ⟨gl, 0, none⟩))).setCell ⟨px, 2, none⟩ (.pointer (some ⟨rl, 0, none⟩))) = w3 at HW HK ⊢
 go_ret
 have hpw := HX.out.lt
 have n1 : ∀ k, Fd k → ¬ k = px := fun k e e2 => HPX.out ((H4.out px).2 (.inl (by rw [← e2]; exact e)))
 have n2 : ∀ k, Pd k → ¬ k = px := fun k e e2 => HPX.out ((H4.out px).2 (.inr (by rw [← e2]; exact e)))
 have s1 := HB1.out.size
 refine ⟨rfl, fun k => (Fd k ∨ Fl k) ∨ (Pd k ∨ Fr k), gl, rl, ⟨fun k => Fd k ∨ Fl k, fun k => Pd k ∨ Fr k, ⟨Fd, Fl, ?_, ?_, ?_, fun _ => Iff.rfl⟩, ⟨Pd, Fr, hf, ?_, ?_, HHF.out, HFR.out, ?_, fun _ => Iff.rfl⟩, ?_, fun _ => Iff.rfl⟩, HW.out, ?_, ?_⟩
 ·
  exact ((H1.out.below HB1.out).below HB2.out).kept HK.out n1
 ·
  exact (HL.out.below HB2.out).kept HK.out (fun k e e2 => by have := HFL.out k e; omega)
 ·
  exact fun k e1 e2 => by have := H1.out.lt k e1; have := HFL.out k e2; omega
 ·
  exact ((H2.out.below HB1.out).below HB2.out).kept HK.out n2
 ·
  exact HR.out.kept HK.out (fun k e e2 => by have := HFR2.out k e; omega)
 ·
  exact fun k e1 e2 => by have := H2.out.lt k e1; have := HFR2.out k e2; omega
 ·
  intro k e1 e2
  rcases e1 with e1 | e1
  ·
   rcases e2 with e2 | e2
   ·
    exact H3.out k e1 e2
   ·
    have := H1.out.lt k e1; have := HFR2.out k e2; omega
  ·
   rcases e2 with e2 | e2
   ·
    have := H2.out.lt k e2; have := HFL.out k e1; omega
   ·
    have := HL.out.lt k e1; have := HFR2.out k e2; omega
 ·
  exact Kept.pre (HB1.out.next HB2.out) HK.out
 ·
  intro k e
  rcases e with (e | e) | (e | e)
  ·
   exact .inl ((H4.out k).2 (.inl e))
  ·
   exact .inr (HFL.out k e)
  ·
   exact .inl ((H4.out k).2 (.inr e))
  ·
   have := HFR2.out k e; right; omega
set_option maxHeartbeats 800000 in
theorem open_few5 (F : Nat → Prop) (w : World) (px g q n : Nat) (D : DK) (vl vr : Value) (hx : HT w px 71 (pcl vl g vr q)) (h : E5 F w g q n D) (hoff : D.off = false) (hn : n < 4) :
  Calls Try.prog 33 #[.pointer (some ⟨px, 0, none⟩)] w fun e w' => e = .returned (.bool true) ∧ HT w' px 71 (pcl (.pointer none) g (.pointer none) q) ∧ Kept (fun k => k = px) w w' := by
 obtain ⟨Fd, Pd, h1, h2, h3, h4⟩ := h
 have hx1 := hx.cell (j := 1) rfl
 have hx3 := hx.cell (j := 3) rfl
 have ho := Open_few w g n Fd D h1 hoff hn
 have hp := POpen_few w q n Pd D h2 hoff hn
 have c0 := hx.cell (j := 0) rfl
 have f0 := hx.frozen 0
 have c2 := hx.cell (j := 2) rfl
 have f2 := hx.frozen 2
 have HX := Lib.hid hx
 clear hx h1 h2 h3 h4 hoff hn
 have HW : Hid (HT ((w.setCell ⟨px, 0, none⟩ (.pointer none)).setCell ⟨px, 2, none⟩ (.pointer none)) px 71 (pcl (.pointer none) g (.pointer none) q)) := (HX.out.put 0 (.pointer none)).put 2 (.pointer none)
 have HK : Hid (Kept (fun k => k = px) w ((w.setCell ⟨px, 0, none⟩ (.pointer none)).setCell ⟨px, 2, none⟩ (.pointer none))) := ((Kept.refl (fun k => k = px) w).setCell ⟨px, 0, none⟩ _ rfl).setCell ⟨px, 2, none⟩ _ rfl
 go_enter Try.func33, Try.ntmps33
 go_wp2_with fail
 refine ho.mono ?_
 clear ho
 rintro e w1 ⟨rfl, rfl⟩
 go_wp2_with fail
 refine hp.mono ?_
 clear hp
 rintro e w2 ⟨rfl, rfl⟩
 go_wp2_with fail
 go_ret
 exact ⟨rfl, HW.out, HK.out⟩
end Cam
