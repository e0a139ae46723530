import Derived.Test.YtgeclnjkkjmbaaaGreatVa
import Derived.Test.YtgeclnjkkjmbaaaGreatRowIz
import Derived.Test.YtgeclnjkkjmbaaaGreatUni
/- Several small texts in one: WrC, WrO. No condition. -/
namespace Cam
open Go Go.RowKit Go.Proofs
set_option linter.unusedVariables false
set_option linter.unusedSimpArgs false
set_option maxRecDepth 100000
set_option maxHeartbeats 1600000
variable {tw : TypeId} {rs : List Value}
theorem PW.below {w w' : World} {g : Nat} {v : Value} {l : List UInt8} {lg : Bool} (h : PW tw rs w g v l lg) (hb : Below w.heap.size w w') : PW tw rs w' g v l lg := ⟨(hb.block g h.lt).trans h.1, OwnB.below h.2 hb⟩
theorem PWPost.pre {w w1 w2 : World} {g : Nat} {v : Value} {l : List UInt8} {lg : Bool} (hb : Below w.heap.size w w1) (h : PWPost tw rs w1 g v l lg w2) : PWPost tw rs w g v l lg w2 := by
 obtain ⟨v', h1, h2, h3⟩ := h
 refine ⟨v', h1, ((Kept.of_below hb).weaken (fun _ h => h.elim)).trans h2 (fun _ _ h => h), fun k hk => ?_⟩
 rcases h3 k hk with e | e
 ·
  exact .inl e
 ·
  exact .inr (Nat.le_trans hb.size e)
theorem PWPost.next {w w1 w2 : World} {g : Nat} {v v1 : Value} {l1 l2 : List UInt8} {lg : Bool} (h : PW tw rs w1 g v1 l1 lg ∧ Kept (fun k => k = g ∨ v.ownBlock = some k) w w1 ∧ ∀ k, v1.ownBlock = some k → v.ownBlock = some k ∨ w.heap.size ≤ k) (h2 : PWPost tw rs w1 g v1 l2 lg w2) : PWPost tw rs w g v l2 lg w2 := by
 obtain ⟨_, hk, ho⟩ := h
 obtain ⟨v2, h3, h4, h5⟩ := h2
 refine ⟨v2, h3, hk.trans h4 (fun i hi e => ?_), fun k hk2 => ?_⟩
 ·
  rcases e with e | e
  ·
   exact .inl e
  ·
   rcases ho i e with e2 | e2
   ·
    exact .inr e2
   ·
    omega
 ·
  rcases h5 k hk2 with e | e
  ·
   exact ho k e
  ·
   exact .inr (Nat.le_trans hk.size e)
theorem HT.keptH {S : Nat → Prop} {w w' : World} {g : Nat} {t : TypeId} {C : List Value} (h : HT w g t C) (hk : Kept S w w') (hg : ¬ S g) : HT w' g t C := (hk.block g h.lt hg).trans h
theorem is_tail {w : World} {g : Nat} {t : TypeId} {ys zs : List Int} (h : HT w g t ((ys ++ zs).map (Value.int .i64))) (hs : zs.length ≤ 1000) : Is w (.slice (some ⟨g, ys.length, none⟩) zs.length zs.length) zs := by
 refine ⟨by simp, some ⟨g, ys.length, none⟩, zs.length, rfl, Nat.le_refl _, by unfold maxLen; omega, (fun e => by cases e), fun ad had i u hu => ?_⟩
 cases had
 rw [add_none]
 exact h.cell (by rw [List.map_append, List.getElem?_append_right (by simp)]; simpa using hu)
theorem wcmd_any (w : World) (g : Nat) (v : Value) (l : List UInt8) (lg : Bool) (x0 x1 x2 x3 x4 x5 x6 x7 x8 x9 x10 x11 x12 x13 x14 x15 x16 : Int) (hp : PW tw rs w g v l lg) (hr : ∀ n ∈ [x0, x1, x2, x3, x4, x5, x6, x7, x8, x9, x10, x11, x12, x13, x14, x15, x16], -9223372036854775808 ≤ n ∧ n ≤ 9223372036854775807) (hlen : l.length ≤ 35184372088832) :
  Calls Tryz.prog 50 #[.pointer (some ⟨g, 0, none⟩), .agg #[.int .i64 x0, .int .i64 x1, .int .i64 x2, .int .i64 x3, .int .i64 x4, .int .i64 x5, .int .i64 x6, .int .i64 x7, .int .i64 x8, .int .i64 x9, .int .i64 x10, .int .i64 x11, .int .i64 x12, .int .i64 x13, .int .i64 x14, .int .i64 x15, .int .i64 x16]] w fun e w' => e = .returned (.tuple #[]) ∧ PWPost tw rs w g v (l ++ encIs [x0, x1, x2, x3, x4, x5, x6, x7, x8, x9, x10, x11, x12, x13, x14, x15, x16]) lg w' := by
 have hbx := (Below.refl w.heap.size w).alloc (Nat.le_refl _) (.cells #[x0, x1, x2, x3, x4, x5, x6, x7, x8, x9, x10, x11, x12, x13, x14, x15, x16] 59)
 have hc : HT (w.alloc (.cells #[x0, x1, x2, x3, x4, x5, x6, x7, x8, x9, x10, x11, x12, x13, x14, x15, x16] 59)) w.heap.size 59 [x0, x1, x2, x3, x4, x5, x6, x7, x8, x9, x10, x11, x12, x13, x14, x15, x16] := HT.new (w := w)
 have hng : w.heap.size ≠ g := by have := hp.lt; omega
 have hnv : v.ownBlock ≠ some w.heap.size := fun e => by have := (hp.row _ e).2; omega
 have HP := Lh (hp.below hbx)
 have HBX := Lh hbx
 have HC2 := Lh hc
 have HC := Lh (fun (j : Nat) (u : Value) (h : [.int .i64 x0, .int .i64 x1, .int .i64 x2, .int .i64 x3, .int .i64 x4, .int .i64 x5, .int .i64 x6, .int .i64 x7, .int .i64 x8, .int .i64 x9, .int .i64 x10, .int .i64 x11, .int .i64 x12, .int .i64 x13, .int .i64 x14, .int .i64 x15, .int .i64 x16][j]? = some u) => hc.cell h)
 have HNG := Lh hng
 have HNV := Lh hnv
 have HR : Hid ((∀ n ∈ [x0, x1, x2, x3, x4, x5, x6, x7, x8, x9, x10], -9223372036854775808 ≤ n ∧ n ≤ 9223372036854775807) ∧ (∀ n ∈ [x11, x12, x13, x14, x15, x16], -9223372036854775808 ≤ n ∧ n ≤ 9223372036854775807)) :=
  ⟨fun n hn => hr n (List.mem_append_left [x11, x12, x13, x14, x15, x16] hn), fun n hn => hr n (List.mem_append_right [x0, x1, x2, x3, x4, x5, x6, x7, x8, x9, x10] hn)⟩
 have HLEN := Lh hlen
 clear hbx hc hng hnv hp hr hlen
 go_in
 go_wp2_with fail
 generalize hW : (w.alloc (.cells #[x0, x1, x2, x3, x4, x5, x6, x7, x8, x9, x10, x11, x12, x13, x14, x15, x16] 59)) = W at *
 clear hW
 generalize hgc : w.heap.size = gc at *
 have HGC : Hid (gc = w.heap.size) := hgc.symm
 clear hgc
 refine wp_region_bl 26 (by kernel_rfl) ?_
 refine uP 4 [(0, some 4, .pointer (some ⟨g, 0, none⟩)), (1, some 5, .pointer (some ⟨g, 0, none⟩)), (2, some 6, .pointer (some ⟨g, 0, none⟩)), (3, some 7, .pointer (some ⟨gc, 0, none⟩))] (BL.cls W) ?_
 refine uL 4 (some 8) (.int .i64 x0) (BL.cls W) (fun w hSw => BL.cell hSw (HC.out 0 _ rfl)) ?_
 refine uP 1 [(5, some 9, .pointer (some ⟨gc, 1, none⟩))] (BL.cls W) ?_
 refine uL 6 (some 10) (.int .i64 x1) (BL.cls W) (fun w hSw => BL.cell hSw (HC.out 1 _ rfl)) ?_
 refine uP 1 [(7, some 11, .pointer (some ⟨gc, 2, none⟩))] (BL.cls W) ?_
 refine uL 8 (some 12) (.int .i64 x2) (BL.cls W) (fun w hSw => BL.cell hSw (HC.out 2 _ rfl)) ?_
 refine uP 1 [(9, some 13, .pointer (some ⟨gc, 3, none⟩))] (BL.cls W) ?_
 refine uL 10 (some 14) (.int .i64 x3) (BL.cls W) (fun w hSw => BL.cell hSw (HC.out 3 _ rfl)) ?_
 refine uP 1 [(11, some 15, .pointer (some ⟨gc, 4, none⟩))] (BL.cls W) ?_
 refine uL 12 (some 16) (.int .i64 x4) (BL.cls W) (fun w hSw => BL.cell hSw (HC.out 4 _ rfl)) ?_
 refine uP 1 [(13, some 17, .pointer (some ⟨gc, 5, none⟩))] (BL.cls W) ?_
 refine uL 14 (some 18) (.int .i64 x5) (BL.cls W) (fun w hSw => BL.cell hSw (HC.out 5 _ rfl)) ?_
 refine uP 1 [(15, some 19, .pointer (some ⟨gc, 6, none⟩))] (BL.cls W) ?_
 refine uL 16 (some 20) (.int .i64 x6) (BL.cls W) (fun w hSw => BL.cell hSw (HC.out 6 _ rfl)) ?_
 refine uP 1 [(17, some 21, .pointer (some ⟨gc, 7, none⟩))] (BL.cls W) ?_
 refine uL 18 (some 22) (.int .i64 x7) (BL.cls W) (fun w hSw => BL.cell hSw (HC.out 7 _ rfl)) ?_
 refine uP 1 [(19, some 23, .pointer (some ⟨gc, 8, none⟩))] (BL.cls W) ?_
 refine uL 20 (some 24) (.int .i64 x8) (BL.cls W) (fun w hSw => BL.cell hSw (HC.out 8 _ rfl)) ?_
 refine uP 1 [(21, some 25, .pointer (some ⟨gc, 9, none⟩))] (BL.cls W) ?_
 refine uL 22 (some 26) (.int .i64 x9) (BL.cls W) (fun w hSw => BL.cell hSw (HC.out 9 _ rfl)) ?_
 refine uP 1 [(23, some 27, .pointer (some ⟨gc, 10, none⟩))] (BL.cls W) ?_
 refine uL 24 (some 28) (.int .i64 x10) (BL.cls W) (fun w hSw => BL.cell hSw (HC.out 10 _ rfl)) ?_
 simp only [zq]
 refine uS 25 rfl (fun wA25 hA25 K hK => ?_)
 go_simp
 refine hK.out _ _ (BL (wA25.alloc (.cells #[x0, x1, x2, x3, x4, x5, x6, x7, x8, x9, x10] 3))) (BL.cls' (hA25.alloc (Below.size hA25) _)) (Below.refl _ _) ?_
 clear hK K
 try simp only [zq]
 refine uZ rfl (fun w1 hb1 K hK => ?_)
 go_simp
 have hbl : Below W.heap.size W w1 := (Below.alloc hA25 hA25.size (.cells #[x0, x1, x2, x3, x4, x5, x6, x7, x8, x9, x10] 3)).trans (hb1.mono (by simp; exact Nat.le_succ_of_le hA25.size))
 have hp1 := HP.out.below hbl
 have his : Is (wA25.alloc (.cells #[x0, x1, x2, x3, x4, x5, x6, x7, x8, x9, x10] 3)) (.slice (some ⟨wA25.heap.size, 0, none⟩) 11 11) [x0, x1, x2, x3, x4, x5, x6, x7, x8, x9, x10] := Is.block (l := [x0, x1, x2, x3, x4, x5, x6, x7, x8, x9, x10]) (heap_new rfl) (Nat.le_refl _) (by simp [maxLen])
 have his1 := his.mono hb1
 refine (WInt_any w1 g v l lg _ _ hp1 his1 (fun w2 hk => his1.kept1 hk (fun _ k hi e => ?_)) HR.out.1 (by have := HLEN.out; simp; omega)).mono ?_
 ·
  obtain ⟨ad, n, c, hv, rfl⟩ := hi
  injection hv with h5
  injection h5 with h5
  subst h5
  have h6 := hA25.size
  rcases e with e | e
  ·
   have := HP.out.lt
   simp only at e
   omega
  ·
   have := (HP.out.row _ e).2
   simp only at this
   omega
 rintro e w2 ⟨rfl, hpo⟩
 have HPO := Lh (hpo.pre hbl)
 clear hbl hp1 his his1 hpo
 refine hK.out _ _ ?_
 clear hK K
 try simp only [zq]
 obtain ⟨v1, hp2, hk2, ho2⟩ := HPO.out
 have HP2 := Lh hp2
 have HK2 := Lh hk2
 have HO2 := Lh ho2
 have hcW := HT.keptH HC2.out hk2 (fun e => e.elim (fun e => HNG.out e) (fun e => HNV.out e))
 have HIS2 := Lh (is_tail (ys := [x0, x1, x2, x3, x4, x5, x6, x7, x8, x9, x10]) (zs := [x11, x12, x13, x14, x15, x16]) hcW (by simp))
 have HNE : Hid (gc ≠ g ∧ v1.ownBlock ≠ some gc) := ⟨HNG.out, fun e => by
  rcases HO2.out gc e with h | h
  ·
   exact HNV.out h
  ·
   have := HC2.out.lt
   omega⟩
 clear hp2 hk2 ho2 hcW hb1
 generalize w2 = W2 at *
 go_wp2_with fail
 refine wp_region_bl 5 (by kernel_rfl) ?_
 refine uP 4 [(0, some 31, .pointer (some ⟨g, 0, none⟩)), (1, some 32, .pointer (some ⟨g, 0, none⟩)), (2, some 33, .pointer (some ⟨g, 0, none⟩)), (3, some 34, .pointer (some ⟨gc, 11, none⟩))] (BL.cls W2) ?_
 refine uG 4 (some 35) (.slice (some ⟨gc, 11, none⟩) 6 6) (BL.cls W2) ?_
 simp only [zq]
 refine uZ rfl (fun w2 hb2 K hK => ?_)
 go_simp
 have hp2 := HP2.out.below hb2
 have his2 := HIS2.out.mono hb2
 refine (WInt_any _ g v1 (l ++ encIs [x0, x1, x2, x3, x4, x5, x6, x7, x8, x9, x10]) lg _ _ hp2 his2 (fun w2 hk => his2.kept1 hk (fun _ k hi e => ?_)) HR.out.2 (by have := HLEN.out; have := encIs_length [x0, x1, x2, x3, x4, x5, x6, x7, x8, x9, x10] HR.out.1; simp at this ⊢; omega)).mono ?_
 ·
  obtain ⟨ad, n, c, hv, rfl⟩ := hi
  injection hv with h5
  injection h5 with h5
  subst h5
  rcases e with e | e
  ·
   exact HNE.out.1 e
  ·
   exact HNE.out.2 e
 rintro e w3 ⟨rfl, hpo⟩
 have HPO2 := Lh (hpo.pre hb2)
 clear hp2 his2 hpo
 refine hK.out _ _ ?_
 clear hK K
 try simp only [zq]
 go_wp2_with fail
 go_end0
 refine ⟨rfl, ?_⟩
 have hf := PWPost.next ⟨HP2.out, HK2.out, HO2.out⟩ HPO2.out
 have e : l ++ encIs [x0, x1, x2, x3, x4, x5, x6, x7, x8, x9, x10] ++ encIs [x11, x12, x13, x14, x15, x16] = l ++ encIs [x0, x1, x2, x3, x4, x5, x6, x7, x8, x9, x10, x11, x12, x13, x14, x15, x16] := by rw [List.append_assoc]; simp [encIs]
 rw [e] at hf
 have hbx := HBX.out
 rw [HGC.out] at hbx
 exact PWPost.pre hbx hf
end Cam
namespace Cam
open Go Go.RowKit Go.Proofs
set_option linter.unusedVariables false
set_option linter.unusedSimpArgs false
set_option maxRecDepth 100000
set_option maxHeartbeats 1600000
variable {tw : TypeId} {rs : List Value}
theorem is_mid {w : World} {g : Nat} {t : TypeId} {ys zs us : List Int} (h : HT w g t ((ys ++ (zs ++ us)).map (Value.int .i64))) (hs : zs.length ≤ 1000) : Is w (.slice (some ⟨g, ys.length, none⟩) zs.length zs.length) zs := by
 refine ⟨by simp, some ⟨g, ys.length, none⟩, zs.length, rfl, Nat.le_refl _, by unfold maxLen; omega, (fun e => by cases e), fun ad had i u hu => ?_⟩
 cases had
 rw [add_none]
 refine h.cell ?_
 rw [List.map_append, List.getElem?_append_right (by simp), List.map_append]
 have hi : i < (zs.map (Value.int .i64)).length := (List.getElem?_eq_some_iff.1 hu).1
 rw [List.length_map, Nat.add_sub_cancel_left, List.getElem?_append_left hi]
 exact hu
theorem wdue_any (w : World) (g : Nat) (v : Value) (l : List UInt8) (lg : Bool) (x0 x1 x2 : Int) (hp : PW tw rs w g v l lg) (hr : ∀ n ∈ [x0, x1, x2], -9223372036854775808 ≤ n ∧ n ≤ 9223372036854775807) (hlen : l.length ≤ 35184372088832) :
  Calls Tryz.prog 108 #[.pointer (some ⟨g, 0, none⟩), .agg #[.int .i64 x0, .int .i64 x1, .int .i64 x2]] w fun e w' => e = .returned (.tuple #[]) ∧ PWPost tw rs w g v (l ++ encIs [x0, x1, x2]) lg w' := by
 have hbx := (Below.refl w.heap.size w).alloc (Nat.le_refl _) (.cells #[x0, x1, x2] 106)
 have hc : HT (w.alloc (.cells #[x0, x1, x2] 106)) w.heap.size 106 [x0, x1, x2] := HT.new (w := w)
 have hng : w.heap.size ≠ g := by have := hp.lt; omega
 have hnv : v.ownBlock ≠ some w.heap.size := fun e => by have := (hp.row _ e).2; omega
 have HP0 := Lh (hp.below hbx)
 have HBX := Lh hbx
 have HC0 := Lh hc
 have HCC0 := Lh (fun (j : Nat) (u : Value) (h : [.int .i64 x0, .int .i64 x1, .int .i64 x2][j]? = some u) => hc.cell h)
 have HNE0 : Hid (w.heap.size ≠ g ∧ v.ownBlock ≠ some w.heap.size) := ⟨hng, hnv⟩
 have HR := Lh hr
 have HLEN := Lh hlen
 clear hbx hc hng hnv hp hr hlen
 go_in
 go_wp2_with fail
 generalize hW : (w.alloc (.cells #[x0, x1, x2] 106)) = W0 at *
 clear hW
 have HK0 : Hid (Kept (fun k => k = g ∨ v.ownBlock = some k) W0 W0) := Kept.refl _ _
 have HO0 : Hid (∀ k, v.ownBlock = some k → v.ownBlock = some k ∨ W0.heap.size ≤ k) := fun k h => .inl h
 generalize hgc : w.heap.size = gc at *
 have HGC : Hid (gc = w.heap.size) := hgc.symm
 clear hgc
 refine wp_region_bl 10 (by kernel_rfl) ?_
 refine uP 4 [(0, some 4, .pointer (some ⟨g, 0, none⟩)), (1, some 5, .pointer (some ⟨g, 0, none⟩)), (2, some 6, .pointer (some ⟨g, 0, none⟩)), (3, some 7, .pointer (some ⟨gc, 0, none⟩))] (BL.cls W0) ?_
 refine uL 4 (some 8) (.int .i64 x0) (BL.cls W0) (fun w hSw => BL.cell hSw (HCC0.out 0 _ rfl)) ?_
 refine uP 1 [(5, some 9, .pointer (some ⟨gc, 1, none⟩))] (BL.cls W0) ?_
 refine uL 6 (some 10) (.int .i64 x1) (BL.cls W0) (fun w hSw => BL.cell hSw (HCC0.out 1 _ rfl)) ?_
 refine uP 1 [(7, some 11, .pointer (some ⟨gc, 2, none⟩))] (BL.cls W0) ?_
 refine uL 8 (some 12) (.int .i64 x2) (BL.cls W0) (fun w hSw => BL.cell hSw (HCC0.out 2 _ rfl)) ?_
 simp only [zq]
 refine uS 9 rfl (fun wA9 hA9 K hK => ?_)
 go_simp
 refine hK.out _ _ (BL (wA9.alloc (.cells #[x0, x1, x2] 3))) (BL.cls' (hA9.alloc (Below.size hA9) _)) (Below.refl _ _) ?_
 clear hK K
 try simp only [zq]
 refine uZ rfl (fun w1 hb1 K hK => ?_)
 go_simp
 have hbl : Below W0.heap.size W0 w1 := (Below.alloc hA9 hA9.size (.cells #[x0, x1, x2] 3)).trans (hb1.mono (by simp; exact Nat.le_succ_of_le hA9.size))
 have hp1 := HP0.out.below hbl
 have his : Is (wA9.alloc (.cells #[x0, x1, x2] 3)) (.slice (some ⟨wA9.heap.size, 0, none⟩) 3 3) [x0, x1, x2] := Is.block (l := [x0, x1, x2]) (heap_new rfl) (Nat.le_refl _) (by simp [maxLen])
 have his1 := his.mono hb1
 refine (WInt_any w1 g v l lg _ _ hp1 his1 (fun w2 hk => his1.kept1 hk (fun _ k hi e => ?_)) (fun n hn => HR.out n (by rw [show [x0, x1, x2] = [] ++ ([x0, x1, x2] ++ []) from rfl]; exact List.mem_append_right _ (List.mem_append_left _ hn))) (by have := HLEN.out; simp; omega)).mono ?_
 ·
  obtain ⟨ad, n, c, hv, rfl⟩ := hi
  injection hv with h5
  injection h5 with h5
  subst h5
  have h6 := hA9.size
  rcases e with e | e'
  ·
   have := HP0.out.lt
   simp only at e
   omega
  ·
   have := (HP0.out.row _ e').2
   simp only at this
   omega
 rintro e wn ⟨rfl, hpo⟩
 have HPO := Lh (hpo.pre hbl)
 clear hbl hp1 his his1 hpo hb1
 refine hK.out _ _ ?_
 clear hK K
 try simp only [zq]
 have hf := PWPost.next ⟨HP0.out, HK0.out, HO0.out⟩ HPO.out
 clear HPO
 go_wp2_with fail
 go_end0
 exact ⟨rfl, PWPost.pre (by rw [← HGC.out]; exact HBX.out) hf⟩
theorem wfall_any (w : World) (g : Nat) (v : Value) (l : List UInt8) (lg : Bool) (x0 x1 x2 x3 x4 x5 x6 x7 : Int) (hp : PW tw rs w g v l lg) (hr : ∀ n ∈ [x0, x1, x2, x3, x4, x5, x6, x7], -9223372036854775808 ≤ n ∧ n ≤ 9223372036854775807) (hlen : l.length ≤ 35184372088832) :
  Calls Tryz.prog 110 #[.pointer (some ⟨g, 0, none⟩), .agg #[.int .i64 x0, .int .i64 x1, .int .i64 x2, .int .i64 x3, .int .i64 x4, .int .i64 x5, .int .i64 x6, .int .i64 x7]] w fun e w' => e = .returned (.tuple #[]) ∧ PWPost tw rs w g v (l ++ encIs [x0, x1, x2, x3, x4, x5, x6, x7]) lg w' := by
 have hbx := (Below.refl w.heap.size w).alloc (Nat.le_refl _) (.cells #[x0, x1, x2, x3, x4, x5, x6, x7] 159)
 have hc : HT (w.alloc (.cells #[x0, x1, x2, x3, x4, x5, x6, x7] 159)) w.heap.size 159 [x0, x1, x2, x3, x4, x5, x6, x7] := HT.new (w := w)
 have hng : w.heap.size ≠ g := by have := hp.lt; omega
 have hnv : v.ownBlock ≠ some w.heap.size := fun e => by have := (hp.row _ e).2; omega
 have HP0 := Lh (hp.below hbx)
 have HBX := Lh hbx
 have HC0 := Lh hc
 have HCC0 := Lh (fun (j : Nat) (u : Value) (h : [.int .i64 x0, .int .i64 x1, .int .i64 x2, .int .i64 x3, .int .i64 x4, .int .i64 x5, .int .i64 x6, .int .i64 x7][j]? = some u) => hc.cell h)
 have HNE0 : Hid (w.heap.size ≠ g ∧ v.ownBlock ≠ some w.heap.size) := ⟨hng, hnv⟩
 have HR := Lh hr
 have HLEN := Lh hlen
 clear hbx hc hng hnv hp hr hlen
 go_in
 go_wp2_with fail
 generalize hW : (w.alloc (.cells #[x0, x1, x2, x3, x4, x5, x6, x7] 159)) = W0 at *
 clear hW
 have HK0 : Hid (Kept (fun k => k = g ∨ v.ownBlock = some k) W0 W0) := Kept.refl _ _
 have HO0 : Hid (∀ k, v.ownBlock = some k → v.ownBlock = some k ∨ W0.heap.size ≤ k) := fun k h => .inl h
 generalize hgc : w.heap.size = gc at *
 have HGC : Hid (gc = w.heap.size) := hgc.symm
 clear hgc
 refine wp_region_bl 8 (by kernel_rfl) ?_
 refine uP 4 [(0, some 4, .pointer (some ⟨g, 0, none⟩)), (1, some 5, .pointer (some ⟨g, 0, none⟩)), (2, some 6, .pointer (some ⟨g, 0, none⟩)), (3, some 7, .pointer (some ⟨gc, 0, none⟩))] (BL.cls W0) ?_
 refine uL 4 (some 8) (.int .i64 x0) (BL.cls W0) (fun w hSw => BL.cell hSw (HCC0.out 0 _ rfl)) ?_
 refine uP 1 [(5, some 9, .pointer (some ⟨gc, 1, none⟩))] (BL.cls W0) ?_
 refine uL 6 (some 10) (.int .i64 x1) (BL.cls W0) (fun w hSw => BL.cell hSw (HCC0.out 1 _ rfl)) ?_
 simp only [zq]
 refine uS 7 rfl (fun wA7 hA7 K hK => ?_)
 go_simp
 refine hK.out _ _ (BL (wA7.alloc (.cells #[x0, x1] 3))) (BL.cls' (hA7.alloc (Below.size hA7) _)) (Below.refl _ _) ?_
 clear hK K
 try simp only [zq]
 refine uZ rfl (fun w1 hb1 K hK => ?_)
 go_simp
 have hbl : Below W0.heap.size W0 w1 := (Below.alloc hA7 hA7.size (.cells #[x0, x1] 3)).trans (hb1.mono (by simp; exact Nat.le_succ_of_le hA7.size))
 have hp1 := HP0.out.below hbl
 have his : Is (wA7.alloc (.cells #[x0, x1] 3)) (.slice (some ⟨wA7.heap.size, 0, none⟩) 2 2) [x0, x1] := Is.block (l := [x0, x1]) (heap_new rfl) (Nat.le_refl _) (by simp [maxLen])
 have his1 := his.mono hb1
 refine (WInt_any w1 g v l lg _ _ hp1 his1 (fun w2 hk => his1.kept1 hk (fun _ k hi e => ?_)) (fun n hn => HR.out n (by rw [show [x0, x1, x2, x3, x4, x5, x6, x7] = [] ++ ([x0, x1] ++ [x2, x3, x4, x5, x6, x7]) from rfl]; exact List.mem_append_right _ (List.mem_append_left _ hn))) (by have := HLEN.out; simp; omega)).mono ?_
 ·
  obtain ⟨ad, n, c, hv, rfl⟩ := hi
  injection hv with h5
  injection h5 with h5
  subst h5
  have h6 := hA7.size
  rcases e with e | e'
  ·
   have := HP0.out.lt
   simp only at e
   omega
  ·
   have := (HP0.out.row _ e').2
   simp only at this
   omega
 rintro e wn ⟨rfl, hpo⟩
 have HPO := Lh (hpo.pre hbl)
 clear hbl hp1 his his1 hpo hb1
 refine hK.out _ _ ?_
 clear hK K
 try simp only [zq]
 have hf := PWPost.next ⟨HP0.out, HK0.out, HO0.out⟩ HPO.out
 clear HPO
 obtain ⟨v1, hp, hk, ho⟩ := hf
 have HP1 := Lh hp
 have HK1 := Lh hk
 have HO1 := Lh ho
 have hcW : HT wn gc 159 [x0, x1, x2, x3, x4, x5, x6, x7] := HT.keptH HC0.out hk (fun e => e.elim (fun e => HNE0.out.1 e) (fun e => HNE0.out.2 e))
 have HC1 := Lh hcW
 have HCC1 := Lh (fun (j : Nat) (u : Value) (h : [.int .i64 x0, .int .i64 x1, .int .i64 x2, .int .i64 x3, .int .i64 x4, .int .i64 x5, .int .i64 x6, .int .i64 x7][j]? = some u) => hcW.cell h)
 have HNE1 : Hid (gc ≠ g ∧ v1.ownBlock ≠ some gc) := ⟨HNE0.out.1, fun e => by rcases ho gc e with h | h; exact HNE0.out.2 h; have := HC0.out.lt; omega⟩
 clear hp hk ho hcW
 generalize wn = W1 at *
 go_wp2_with fail
 refine wp_region_bl 5 (by kernel_rfl) ?_
 refine uP 4 [(0, some 13, .pointer (some ⟨g, 0, none⟩)), (1, some 14, .pointer (some ⟨g, 0, none⟩)), (2, some 15, .pointer (some ⟨g, 0, none⟩)), (3, some 16, .pointer (some ⟨gc, 2, none⟩))] (BL.cls W1) ?_
 refine uG 4 (some 17) (.slice (some ⟨gc, 2, none⟩) 5 5) (BL.cls W1) ?_
 simp only [zq]
 refine uZ rfl (fun w1 hb1 K hK => ?_)
 go_simp
 have hp1 := HP1.out.below hb1
 have his1 := (is_mid (ys := [x0, x1]) (zs := [x2, x3, x4, x5, x6]) (us := [x7]) HC1.out (by simp)).mono hb1
 refine (WInt_any w1 g v1 (l ++ encIs [x0, x1]) lg _ _ hp1 his1 (fun w2 hk => his1.kept1 hk (fun _ k hi e => ?_)) (fun n hn => HR.out n (by rw [show [x0, x1, x2, x3, x4, x5, x6, x7] = [x0, x1] ++ ([x2, x3, x4, x5, x6] ++ [x7]) from rfl]; exact List.mem_append_right _ (List.mem_append_left _ hn))) (by have h1 := HLEN.out; have h2 := encIs_length [x0, x1] (fun n hn => HR.out n (by rw [show [x0, x1, x2, x3, x4, x5, x6, x7] = [] ++ ([x0, x1] ++ [x2, x3, x4, x5, x6, x7]) from rfl]; exact List.mem_append_right _ (List.mem_append_left _ hn))); simp at h1 h2 ⊢; omega)).mono ?_
 ·
  obtain ⟨ad, n, c, hv, rfl⟩ := hi
  injection hv with h5
  injection h5 with h5
  subst h5
  rcases e with e | e'
  ·
   exact HNE1.out.1 e
  ·
   exact HNE1.out.2 e'
 rintro e wn ⟨rfl, hpo⟩
 have HPO := Lh (hpo.pre hb1)
 clear hp1 his1 hpo hb1
 refine hK.out _ _ ?_
 clear hK K
 try simp only [zq]
 have hf := PWPost.next ⟨HP1.out, HK1.out, HO1.out⟩ HPO.out
 have e : l ++ encIs [x0, x1] ++ encIs [x2, x3, x4, x5, x6] = l ++ encIs [x0, x1, x2, x3, x4, x5, x6] := by rw [List.append_assoc]; simp [encIs]
 rw [e] at hf
 clear HPO
 obtain ⟨v2, hp, hk, ho⟩ := hf
 have HP2 := Lh hp
 have HK2 := Lh hk
 have HO2 := Lh ho
 have hcW : HT wn gc 159 [x0, x1, x2, x3, x4, x5, x6, x7] := HT.keptH HC0.out hk (fun e => e.elim (fun e => HNE0.out.1 e) (fun e => HNE0.out.2 e))
 have HC2 := Lh hcW
 have HCC2 := Lh (fun (j : Nat) (u : Value) (h : [.int .i64 x0, .int .i64 x1, .int .i64 x2, .int .i64 x3, .int .i64 x4, .int .i64 x5, .int .i64 x6, .int .i64 x7][j]? = some u) => hcW.cell h)
 have HNE2 : Hid (gc ≠ g ∧ v2.ownBlock ≠ some gc) := ⟨HNE0.out.1, fun e => by rcases ho gc e with h | h; exact HNE0.out.2 h; have := HC0.out.lt; omega⟩
 clear hp hk ho hcW
 generalize wn = W2 at *
 go_wp2_with fail
 refine wp_region_bl 6 (by kernel_rfl) ?_
 refine uP 4 [(0, some 19, .pointer (some ⟨g, 0, none⟩)), (1, some 20, .pointer (some ⟨g, 0, none⟩)), (2, some 21, .pointer (some ⟨g, 0, none⟩)), (3, some 22, .pointer (some ⟨gc, 7, none⟩))] (BL.cls W2) ?_
 refine uL 4 (some 23) (.int .i64 x7) (BL.cls W2) (fun w hSw => BL.cell hSw (HCC2.out 7 _ rfl)) ?_
 simp only [zq]
 refine uS 5 rfl (fun wA5 hA5 K hK => ?_)
 go_simp
 refine hK.out _ _ (BL (wA5.alloc (.cells #[x7] 3))) (BL.cls' (hA5.alloc (Below.size hA5) _)) (Below.refl _ _) ?_
 clear hK K
 try simp only [zq]
 refine uZ rfl (fun w1 hb1 K hK => ?_)
 go_simp
 have hbl : Below W2.heap.size W2 w1 := (Below.alloc hA5 hA5.size (.cells #[x7] 3)).trans (hb1.mono (by simp; exact Nat.le_succ_of_le hA5.size))
 have hp1 := HP2.out.below hbl
 have his : Is (wA5.alloc (.cells #[x7] 3)) (.slice (some ⟨wA5.heap.size, 0, none⟩) 1 1) [x7] := Is.block (l := [x7]) (heap_new rfl) (Nat.le_refl _) (by simp [maxLen])
 have his1 := his.mono hb1
 refine (WInt_any w1 g v2 (l ++ encIs [x0, x1, x2, x3, x4, x5, x6]) lg _ _ hp1 his1 (fun w2 hk => his1.kept1 hk (fun _ k hi e => ?_)) (fun n hn => HR.out n (by rw [show [x0, x1, x2, x3, x4, x5, x6, x7] = [x0, x1, x2, x3, x4, x5, x6] ++ ([x7] ++ []) from rfl]; exact List.mem_append_right _ (List.mem_append_left _ hn))) (by have h1 := HLEN.out; have h2 := encIs_length [x0, x1, x2, x3, x4, x5, x6] (fun n hn => HR.out n (by rw [show [x0, x1, x2, x3, x4, x5, x6, x7] = [] ++ ([x0, x1, x2, x3, x4, x5, x6] ++ [x7]) from rfl]; exact List.mem_append_right _ (List.mem_append_left _ hn))); simp at h1 h2 ⊢; omega)).mono ?_
 ·
  obtain ⟨ad, n, c, hv, rfl⟩ := hi
  injection hv with h5
  injection h5 with h5
  subst h5
  have h6 := hA5.size
  rcases e with e | e'
  ·
   have := HP2.out.lt
   simp only at e
   omega
  ·
   have := (HP2.out.row _ e').2
   simp only at this
   omega
 rintro e wn ⟨rfl, hpo⟩
 have HPO := Lh (hpo.pre hbl)
 clear hbl hp1 his his1 hpo hb1
 refine hK.out _ _ ?_
 clear hK K
 try simp only [zq]
 have hf := PWPost.next ⟨HP2.out, HK2.out, HO2.out⟩ HPO.out
 have e : l ++ encIs [x0, x1, x2, x3, x4, x5, x6] ++ encIs [x7] = l ++ encIs [x0, x1, x2, x3, x4, x5, x6, x7] := by rw [List.append_assoc]; simp [encIs]
 rw [e] at hf
 clear HPO
 go_wp2_with fail
 go_end0
 exact ⟨rfl, PWPost.pre (by rw [← HGC.out]; exact HBX.out) hf⟩
end Cam
