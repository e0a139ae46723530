import Derived.Test.YtgeclnjkkjmbaaaGreatWrP
/- wire.writer.reply, wire.Reply. -/
namespace Cam
open Go Go.RowKit Go.Proofs
set_option linter.unusedVariables false
set_option linter.unusedSimpArgs false
set_option maxRecDepth 100000
set_option maxHeartbeats 3200000
variable {tw : TypeId}
def lw {α : Type} (f : α → List Int) (L : List α) : List UInt8 := if 1024 < L.length then [] else encIs [(L.length : Int)] ++ encR f L
theorem lw_length {α : Type} (f : α → List Int) (K : Nat) (L : List α) (h : ∀ x ∈ L, (f x).length = K) (hr : ∀ x ∈ L, ∀ n ∈ f x, -9223372036854775808 ≤ n ∧ n ≤ 9223372036854775807) : (lw f L).length ≤ 10 + 10240 * K := by
 unfold lw
 split
 ·
  simp
 ·
  rename_i hn
  have h1 := encIs_length [(L.length : Int)] (by intro m hm; rw [List.mem_singleton] at hm; omega)
  have h2 := encR_length f K L h hr
  rw [List.length_append]
  simp only [List.length_singleton] at h1
  have h3 : L.length * (10 * K) ≤ 1024 * (10 * K) := Nat.mul_le_mul_right _ (by omega)
  omega
def encRep (xc xn xa : Int) (D : List DT) (F : List FT) : List UInt8 := encIs [xc, xn, xa] ++ (lw DT.ints D ++ lw FT.ints F)
theorem kept_next {w w1 w2 : World} {g : Nat} {v v1 : Value} (hk : Kept (fun k => k = g ∨ v.ownBlock = some k) w w1) (ho : ∀ k, v1.ownBlock = some k → v.ownBlock = some k ∨ w.heap.size ≤ k) (h4 : Kept (fun k => k = g ∨ v1.ownBlock = some k) w1 w2) : Kept (fun k => k = g ∨ v.ownBlock = some k) w w2 :=
 hk.trans h4 (fun i hi e => by
  rcases e with e | e
  ·
   exact .inl e
  ·
   rcases ho i e with e2 | e2
   ·
    exact .inr e2
   ·
    omega)
theorem wlistA_due (w : World) (g : Nat) (v : Value) (l : List UInt8) (lg wb : Bool) (vl : Value) (L : List DT) (hp : PW tw [.bool wb] w g v l lg) (hx : ∀ w', Kept (fun k => k = g ∨ v.ownBlock = some k) w w' → Rs DT.vs 3 w' vl L) (hr : ∀ x ∈ L, ∀ n ∈ x.ints, -9223372036854775808 ≤ n ∧ n ≤ 9223372036854775807) (hlen : l.length ≤ 1000000000) :
  Calls Tryz.prog 107 #[.pointer (some ⟨g, 0, none⟩), vl, .func (.func 108) #[.pointer (some ⟨g, 0, none⟩)] #[]] w fun e w' => e = .returned (.tuple #[]) ∧ PWPost tw [.bool (wb || decide (1024 < L.length))] w g v (l ++ lw DT.ints L) lg w' := by
 by_cases h : 1024 < L.length
 ·
  rw [decide_eq_true h, Bool.or_true, lw, if_pos h, List.append_nil]
  exact wlist_due_no w g v l lg wb vl L hp (hx w (Kept.refl _ _)) h _
 ·
  rw [decide_eq_false h, Bool.or_false, lw, if_neg h]
  exact wlist_due w g v l lg wb vl L hp hx hr (by omega) hlen
theorem wlistA_fall (w : World) (g : Nat) (v : Value) (l : List UInt8) (lg wb : Bool) (vl : Value) (L : List FT) (hp : PW tw [.bool wb] w g v l lg) (hx : ∀ w', Kept (fun k => k = g ∨ v.ownBlock = some k) w w' → Rs FT.vs 8 w' vl L) (hr : ∀ x ∈ L, ∀ n ∈ x.ints, -9223372036854775808 ≤ n ∧ n ≤ 9223372036854775807) (hlen : l.length ≤ 1000000000) :
  Calls Tryz.prog 109 #[.pointer (some ⟨g, 0, none⟩), vl, .func (.func 110) #[.pointer (some ⟨g, 0, none⟩)] #[]] w fun e w' => e = .returned (.tuple #[]) ∧ PWPost tw [.bool (wb || decide (1024 < L.length))] w g v (l ++ lw FT.ints L) lg w' := by
 by_cases h : 1024 < L.length
 ·
  rw [decide_eq_true h, Bool.or_true, lw, if_pos h, List.append_nil]
  exact wlist_fall_no w g v l lg wb vl L hp (hx w (Kept.refl _ _)) h _
 ·
  rw [decide_eq_false h, Bool.or_false, lw, if_neg h]
  exact wlist_fall w g v l lg wb vl L hp hx hr (by omega) hlen
theorem wreply_any (w : World) (g : Nat) (v : Value) (l : List UInt8) (lg wb : Bool) (xc xn xa : Int) (vd vf : Value) (D : List DT) (F : List FT) (hp : PW tw [.bool wb] w g v l lg) (hr : ∀ n ∈ [xc, xn, xa], -9223372036854775808 ≤ n ∧ n ≤ 9223372036854775807)
  (hd : ∀ w', Kept (fun k => k = g ∨ v.ownBlock = some k) w w' → Rs DT.vs 3 w' vd D) (hf : ∀ w', Kept (fun k => k = g ∨ v.ownBlock = some k) w w' → Rs FT.vs 8 w' vf F)
  (hrd : ∀ x ∈ D, ∀ n ∈ x.ints, -9223372036854775808 ≤ n ∧ n ≤ 9223372036854775807) (hrf : ∀ x ∈ F, ∀ n ∈ x.ints, -9223372036854775808 ≤ n ∧ n ≤ 9223372036854775807) (hlen : l.length ≤ 100000000) :
  Calls Tryz.prog 51 #[.pointer (some ⟨g, 0, none⟩), .agg #[.int .i64 xc, .int .i64 xn, .int .i64 xa, vd, vf]] w fun e w' => e = .returned (.tuple #[]) ∧ PWPost tw [.bool (wb || decide (1024 < D.length) || decide (1024 < F.length))] w g v (l ++ encRep xc xn xa D F) lg w' := by
 obtain ⟨ad, cd, rfl, hcd, hmd⟩ := (hd w (Kept.refl _ _)).shape
 obtain ⟨af, cf, rfl, hcf, hmf⟩ := (hf w (Kept.refl _ _)).shape
 have HD := Lh hd
 have HF := Lh hf
 have hbx := (Below.refl w.heap.size w).alloc (Nat.le_refl _) (.cells #[xc, xn, xa, .slice ad D.length cd, .slice af F.length cf] 63)
 have hc : HT (w.alloc (.cells #[xc, xn, xa, .slice ad D.length cd, .slice af F.length cf] 63)) w.heap.size 63 [xc, xn, xa, .slice ad D.length cd, .slice af F.length cf] := HT.new (w := w)
 have hng : w.heap.size ≠ g := by have := hp.lt; omega
 have hnv : v.ownBlock ≠ some w.heap.size := fun e => by have := (hp.row _ e).2; omega
 have HP0 := Lh (hp.below hbx)
 have HBX := Lh hbx
 have HC0 := Lh hc
 have HCC0 := Lh (fun (j : Nat) (u : Value) (h : [.int .i64 xc, .int .i64 xn, .int .i64 xa, .slice ad D.length cd, .slice af F.length cf][j]? = some u) => hc.cell h)
 have HNE0 : Hid (w.heap.size ≠ g ∧ v.ownBlock ≠ some w.heap.size) := ⟨hng, hnv⟩
 have HR := Lh hr
 have HRD := Lh hrd
 have HRF := Lh hrf
 have HLEN := Lh hlen
 clear hbx hc hng hnv hp hr hlen hd hf hrd hrf hcd hmd hcf hmf
 go_in
 go_wp2_with fail
 generalize hW : (w.alloc (.cells #[xc, xn, xa, .slice ad D.length cd, .slice af F.length cf] 63)) = W0 at *
 clear hW
 generalize hgc : w.heap.size = gc at HC0 HCC0 HNE0 ⊢
 clear hgc
 refine wp_region_bl 10 (by kernel_rfl) ?_
 refine uP 4 [(0, some 4, .pointer (some ⟨g, 0, none⟩)), (1, some 5, .pointer (some ⟨g, 0, none⟩)), (2, some 6, .pointer (some ⟨g, 0, none⟩)), (3, some 7, .pointer (some ⟨gc, 0, none⟩))] (BL.cls W0) ?_
 refine uL 4 (some 8) (.int .i64 xc) (BL.cls W0) (fun w hSw => BL.cell hSw (HCC0.out 0 _ rfl)) ?_
 refine uP 1 [(5, some 9, .pointer (some ⟨gc, 1, none⟩))] (BL.cls W0) ?_
 refine uL 6 (some 10) (.int .i64 xn) (BL.cls W0) (fun w hSw => BL.cell hSw (HCC0.out 1 _ rfl)) ?_
 refine uP 1 [(7, some 11, .pointer (some ⟨gc, 2, none⟩))] (BL.cls W0) ?_
 refine uL 8 (some 12) (.int .i64 xa) (BL.cls W0) (fun w hSw => BL.cell hSw (HCC0.out 2 _ rfl)) ?_
 simp only [zq]
 refine uS 9 rfl (fun wA9 hA9 K hK => ?_)
 go_simp
 refine hK.out _ _ (BL (wA9.alloc (.cells #[xc, xn, xa] 3))) (BL.cls' (hA9.alloc (Below.size hA9) _)) (Below.refl _ _) ?_
 clear hK K
 try simp only [zq]
 refine uZ rfl (fun w1 hb1 K hK => ?_)
 go_simp
 have hbl : Below W0.heap.size W0 w1 := (Below.alloc hA9 hA9.size (.cells #[xc, xn, xa] 3)).trans (hb1.mono (by simp; exact Nat.le_succ_of_le hA9.size))
 have hp1 := HP0.out.below hbl
 have his : Is (wA9.alloc (.cells #[xc, xn, xa] 3)) (.slice (some ⟨wA9.heap.size, 0, none⟩) 3 3) [xc, xn, xa] := Is.block (l := [xc, xn, xa]) (heap_new rfl) (Nat.le_refl _) (by simp [maxLen])
 have his1 := his.mono hb1
 refine (WInt_any w1 g v l lg _ _ hp1 his1 (fun w2 hk => his1.kept1 hk (fun _ k hi e => ?_)) HR.out (by have := HLEN.out; simp; omega)).mono ?_
 ·
  obtain ⟨ad, n, c, hv, rfl⟩ := hi
  injection hv with h5
  injection h5 with h5
  subst h5
  have h6 := hA9.size
  rcases e with e | e'
  ·
   have := HP0.out.lt
   simp only at e
   omega
  ·
   have := (HP0.out.row _ e').2
   simp only at this
   omega
 rintro e wn ⟨rfl, hpo⟩
 have HPO := Lh (hpo.pre hbl)
 clear hbl hp1 his his1 hpo hb1
 refine hK.out _ _ ?_
 clear hK K
 try simp only [zq]
 obtain ⟨v1, hp1, hk1, ho1⟩ := HPO.out
 have hcW : HT wn gc 63 [xc, xn, xa, .slice ad D.length cd, .slice af F.length cf] := HT.keptH HC0.out hk1 (fun e => e.elim (fun e => HNE0.out.1 e) (fun e => HNE0.out.2 e))
 have hc3 := hcW.cell (j := 3) rfl
 have hc4 := hcW.cell (j := 4) rfl
 have hkw : Kept (fun k => k = g ∨ v.ownBlock = some k) w wn := ((Kept.of_below HBX.out).weaken (fun _ h => h.elim)).trans hk1 (fun _ _ h => h)
 have how : ∀ k, v1.ownBlock = some k → v.ownBlock = some k ∨ w.heap.size ≤ k := fun k e => (ho1 k e).imp id (fun h => Nat.le_trans HBX.out.size h)
 have ld := wlistA_due wn g v1 (l ++ encIs [xc, xn, xa]) lg wb (.slice ad D.length cd) D hp1 (fun w2 h => HD.out w2 (kept_next hkw how h)) HRD.out (by have h1 := HLEN.out; have h2 := encIs_length [xc, xn, xa] HR.out; simp at h2 ⊢; omega)
 have HK1 := Lh (⟨hkw, how, hcW⟩ : _ ∧ _ ∧ _)
 have HNE1 : Hid (v1.ownBlock ≠ some gc) := fun e => by rcases ho1 gc e with h | h; exact HNE0.out.2 h; have := HC0.out.lt; omega
 have HP1 := Lh hp1
 clear HPO hp1 hk1 ho1 hcW hkw how
 go_wp2_with fail
 refine ld.mono ?_
 clear ld hc3 hc4
 rintro e w2 ⟨rfl, hpo⟩
 obtain ⟨v2, hp2, hk2, ho2⟩ := hpo
 have hcW : HT w2 gc 63 [xc, xn, xa, .slice ad D.length cd, .slice af F.length cf] := HT.keptH HK1.out.2.2 hk2 (fun e => e.elim (fun e => HNE0.out.1 e) (fun e => HNE1.out e))
 have hc3 := hcW.cell (j := 3) rfl
 have hc4 := hcW.cell (j := 4) rfl
 have hkw : Kept (fun k => k = g ∨ v.ownBlock = some k) w w2 := kept_next HK1.out.1 HK1.out.2.1 hk2
 have how : ∀ k, v2.ownBlock = some k → v.ownBlock = some k ∨ w.heap.size ≤ k := fun k e => by
    rcases ho2 k e with h | h
    ·
     exact HK1.out.2.1 k h
    ·
     exact .inr (Nat.le_trans HK1.out.1.size h)
 have lf := wlistA_fall w2 g v2 (l ++ encIs [xc, xn, xa] ++ lw DT.ints D) lg (wb || decide (1024 < D.length)) (.slice af F.length cf) F hp2 (fun w3 h => HF.out w3 (kept_next hkw how h)) HRF.out (by have h1 := HLEN.out; have h2 := encIs_length [xc, xn, xa] HR.out; have h3 := lw_length DT.ints 3 D (fun _ _ => rfl) HRD.out; simp at h2 h3 ⊢; omega)
 have HK2 := Lh (⟨hkw, how⟩ : _ ∧ _)
 clear hp2 hk2 ho2 hcW hkw how
 go_wp2_with fail
 refine lf.mono ?_
 clear lf hc3 hc4
 rintro e w3 ⟨rfl, v3, hp3, hk3, ho3⟩
 have HF3 : Hid (PWPost tw [.bool (wb || decide (1024 < D.length) || decide (1024 < F.length))] w g v (l ++ encRep xc xn xa D F) lg w3) := ⟨v3, by
    have e : l ++ encRep xc xn xa D F = l ++ encIs [xc, xn, xa] ++ lw DT.ints D ++ lw FT.ints F := by unfold encRep; simp only [List.append_assoc]
    rw [e]
    exact hp3, kept_next HK2.out.1 HK2.out.2 hk3, fun k e => by
    rcases ho3 k e with h | h
    ·
     exact HK2.out.2 k h
    ·
     exact .inr (Nat.le_trans HK2.out.1.size h)⟩
 clear hp3 hk3 ho3
 go_wp2_with fail
 go_end0
 exact ⟨rfl, HF3.out⟩
end Cam
