import Derived.Test.YtgeclnjkkjmbaaaGreatWsKz
/- cambistref24: reply, Reply (what is written). -/
namespace Cam
open Go Go.RowKit Go.Proofs
set_option linter.unusedVariables false
set_option linter.unusedSimpArgs false
set_option maxRecDepth 100000
set_option maxHeartbeats 6400000
def BK (base : Nat) (w : World) (vb : Value) (l : List UInt8) (v2 : Value) (wr : World) : Prop := OwnB 5 wr base v2 l ∧ Kept (fun k => vb.ownBlock = some k) w wr ∧ ∀ k, v2.ownBlock = some k → vb.ownBlock = some k ∨ w.heap.size ≤ k
def BKPost (base : Nat) (w : World) (vb : Value) (l : List UInt8) (e : Ending) (w' : World) : Prop := ∃ a n c, e = .returned (.slice a n c) ∧ BK base w vb l (.slice a n c) w'
theorem BK.start {base : Nat} {w : World} {vb : Value} {l : List UInt8} (h : OwnB 5 w base vb l) : BK base w vb l vb w := ⟨h, Kept.refl _ _, fun _ h => .inl h⟩
theorem BK.next {base : Nat} {W wr wa w' : World} {vb v2 : Value} {l l' : List UInt8} {e : Ending} (h : BK base W vb l v2 wr) (hb : Below wr.heap.size wr wa) (hr : RetOnK base wa v2 l' e w') : BKPost base W vb l' e w' := by
 obtain ⟨a, n, c, he, h1, h2, h3, _⟩ := onK_next h.2.1 h.2.2 hb hr
 exact ⟨a, n, c, he, h1, h2, h3⟩
theorem BK.below {base : Nat} {W wr wa : World} {vb v2 : Value} {l : List UInt8} (h : BK base W vb l v2 wr) (hb : Below wr.heap.size wr wa) : BK base W vb l v2 wa := ⟨OwnB.below h.1 hb, h.2.1.trans (Kept.of_below hb) (fun _ _ h => h.elim), h.2.2⟩
theorem BK.trans {base : Nat} {W wr wa w' : World} {vb v1 v2 : Value} {l l' : List UInt8} (h : BK base W vb l v1 wr) (hb : Below wr.heap.size wr wa) (k : BK base wa v1 l' v2 w') : BK base W vb l' v2 w' := by
 refine ⟨k.1, (h.2.1.trans (Kept.of_below hb) (fun _ _ h => h.elim)).trans k.2.1 (fun i hi e => ?_), fun j e => ?_⟩
 ·
  rcases h.2.2 i e with h1 | h1
  ·
   exact h1
  ·
   omega
 ·
  rcases k.2.2 j e with h1 | h1
  ·
   exact h.2.2 j h1
  ·
   exact .inr (Nat.le_trans h.2.1.size (Nat.le_trans hb.size h1))
theorem BK.num {base : Nat} {W wr wa : World} {vb v2 : Value} {l : List UInt8} {vl : Value} {ys : List Int} (h : BK base W vb l v2 wr) (hb : Below wr.heap.size wr wa) (hl : Is wa vl ys) (hr : okI ys) (hlen : ys.length ≤ 1000) (hll : l.length ≤ 1000000000) (hbase : base ≤ W.heap.size) :
  Calls Tryz.prog 26 #[v2, vl] wa (BKPost base W vb (l ++ encIs ys)) :=
 (num_any wa base v2 l vl ys (OwnB.below h.1 hb) hl hr (by omega) hll (Nat.le_trans hbase (Nat.le_trans h.2.1.size hb.size))).mono fun _ _ k => h.next hb k
theorem BK.box {base : Nat} {W wr : World} {vb v2 : Value} {l : List UInt8} {g : Nat} {t : TypeId} {C : List Value} (h : BK base W vb l v2 wr) (hb : HT W g t C) (hne : vb.ownBlock ≠ some g) : HT wr g t C := hb.keptH h.2.1 hne
theorem BK.cls {base : Nat} {W : World} {vb v2 : Value} {l : List UInt8} : Cls (fun x => Kept (fun k => vb.ownBlock = some k) W x) (BK base W vb l v2) := ⟨fun _ h => h.2.1, fun _ _ h hb => h.below hb⟩
theorem BLK.cls {S : Nat → Prop} {W wr : World} (h : Kept S W wr) : Cls (fun x => Kept S W x) (BL wr) := ⟨fun _ hb => h.trans (Kept.of_below hb) (fun _ _ h => h.elim), fun _ _ h hb => Below.next h hb⟩
theorem Rs.cells {α : Type} {enc : α → List Value} {K : Nat} {w : World} {b off n cap : Nat} {L : List α} (h : Rs enc K w (.slice (some ⟨b, off, none⟩) n cap) L) (hK : 0 < K) {i : Nat} (hi : i < L.length) {j : Nat} {u : Value} (hu : (enc L[i])[j]? = some u) : w.cell? ⟨b, off + i * K + j, none⟩ = some u := by
 obtain ⟨a, cap', e, _, _⟩ := h.shape
 cases e
 obtain ⟨b', off', e, _, hc⟩ := h.at (by omega) hK
 cases e
 exact hc i hi j u hu
theorem five_at (u v a b c d e r : Int) (k : Nat) (h : k < 5) : ∃ x, [a, b, c, d, e].take (k + 1) = [a, b, c, d, e].take k ++ [x] ∧ x ∈ [a, b, c, d, e] ∧ ([.int .i64 u, .int .i64 v, .int .i64 a, .int .i64 b, .int .i64 c, .int .i64 d, .int .i64 e, .int .i64 r] : List Value)[2 + k]? = some (.int .i64 x) := by
 rcases k with _ | _ | _ | _ | _ | k
 ·
  exact ⟨a, rfl, by simp, rfl⟩
 ·
  exact ⟨b, rfl, by simp, rfl⟩
 ·
  exact ⟨c, rfl, by simp, rfl⟩
 ·
  exact ⟨d, rfl, by simp, rfl⟩
 ·
  exact ⟨e, rfl, by simp, rfl⟩
 ·
  omega
def encRepP (xc xn xa : Int) (D : List DT) (F : List FT) : List UInt8 := encIs [xc, xn, xa, (D.length : Int)] ++ encR DT.ints D ++ encIs [(F.length : Int)] ++ encR FT.ints F
theorem encRepP_eq (xc xn xa : Int) (D : List DT) (F : List FT) (h : repW D F = false) : encRepP xc xn xa D F = encRep xc xn xa D F := by
 unfold repW at h
 simp at h
 unfold encRepP encRep lw
 rw [if_neg (by omega), if_neg (by omega)]
 simp [encIs, List.append_assoc]
theorem rrepw_any (w : World) (base : Nat) (vb : Value) (lb : List UInt8) (xc xn xa : Int) (vd vf : Value) (D : List DT) (F : List FT) (hb : OwnB 5 w base vb lb)
  (hd : ∀ w', Kept (fun k => vb.ownBlock = some k) w w' → Rs DT.vs 3 w' vd D) (hf : ∀ w', Kept (fun k => vb.ownBlock = some k) w w' → Rs FT.vs 8 w' vf F)
  (hr : okI [xc, xn, xa]) (hrd : ∀ x ∈ D, okI x.ints) (hrf : ∀ x ∈ F, okI x.ints) (hlb : lb.length ≤ 500000000) (hbase : base ≤ w.heap.size) (hDl : D.length ≤ 1200) (hFl : F.length ≤ 1200) :
  Calls Tryz.prog 29 #[vb, .agg #[xc, xn, xa, vd, vf]] w (RetOnK base w vb (lb ++ encRepP xc xn xa D F)) := by
 obtain ⟨a, n, c, rfl, Hn, hb⟩ := OwnB.named hb
 obtain ⟨aD, cD, rfl, hcD, hmD⟩ := (hd w (Kept.refl _ _)).shape
 obtain ⟨aF, cF, rfl, hcF, hmF⟩ := (hf w (Kept.refl _ _)).shape
 obtain ⟨nD, hnD⟩ : ∃ n, n = D.length := ⟨_, rfl⟩
 obtain ⟨nF, hnF⟩ : ∃ n, n = F.length := ⟨_, rfl⟩
 rw [← hnD] at hcD hd hDl ⊢
 rw [← hnF] at hcF hf hFl ⊢
 have hbx : Below w.heap.size w (w.alloc (.cells #[xc, xn, xa, .slice aD nD cD, .slice aF nF cF] 63)) := Bn
 have hbk0 : BK base (w.alloc (.cells #[xc, xn, xa, .slice aD nD cD, .slice aF nF cF] 63)) (.slice a n c) lb (.slice a n c) (w.alloc (.cells #[xc, xn, xa, .slice aD nD cD, .slice aF nF cF] 63)) := BK.start (OwnB.below hb hbx)
 have hne : (Value.slice a n c).ownBlock ≠ some w.heap.size := fun e => by have := OwnB.lt hb _ e; omega
 have hbox : HT (w.alloc (.cells #[xc, xn, xa, .slice aD nD cD, .slice aF nF cF] 63)) w.heap.size 63 [xc, xn, xa, .slice aD nD cD, .slice aF nF cF] := HT.new (w := w)
 have hbase1 : base ≤ (w.alloc (.cells #[xc, xn, xa, .slice aD nD cD, .slice aF nF cF] 63)).heap.size := Nat.le_trans hbase hbx.size
 have nm := BK.num hbk0 ((Below.refl _ _).alloc (Nat.le_refl _) (.cells #[xc, xn, xa, (nD : Int)] 3)) (Is.block (l := [xc, xn, xa, (nD : Int)]) (cap := 4) (heap_alloc_new _ _) (by simp) (by simp [maxLen])) (by
  intro m hm
  simp only [List.mem_cons, List.not_mem_nil, or_false] at hm hr
  rcases hm with h | h | h | h
  ·
   exact hr m (by simp [h])
  ·
   exact hr m (by simp [h])
  ·
   exact hr m (by simp [h])
  ·
   omega) (by simp) (by omega) hbase1
 rw [show (w.alloc (.cells #[xc, xn, xa, .slice aD nD cD, .slice aF nF cF] 63)).heap.size = w.heap.size + 1 by simp] at nm
 have HBX := Lh hbx
 have HNE := Lh hne
 have HBOX := Lh hbox
 have HBASE := Lh hbase1
 have HD := Lh hd
 have HF := Lh hf
 have HRD := Lh hrd
 have HRF := Lh hrf
 have HNN := Lh (⟨hnD, hnF, hlb⟩ : _ ∧ _ ∧ _)
 have HLD : ∀ k : Nat, k ≤ D.length → (lb ++ encIs [xc, xn, xa, (nD : Int)] ++ encR DT.ints (D.take k)).length ≤ 600000000 := by
  intro k hk
  have h1 := encIs_length [xc, xn, xa, (nD : Int)] (by
   intro m hm
   simp only [List.mem_cons, List.not_mem_nil, or_false] at hm
   rcases hm with h | h | h | h
   ·
    exact hr m (by simp [h])
   ·
    exact hr m (by simp [h])
   ·
    exact hr m (by simp [h])
   ·
    omega)
  have h2 := encR_length DT.ints 3 (D.take k) (fun _ _ => rfl) (fun x hx => hrd x (List.mem_of_mem_take hx))
  rw [List.length_take] at h2
  have h3 : min k D.length ≤ 1200 := by omega
  simp only [List.length_append]
  simp at h1
  omega
 have HLF : ∀ k : Nat, k ≤ F.length → ∀ r : List UInt8, r.length ≤ 100 → (lb ++ encIs [xc, xn, xa, (nD : Int)] ++ encR DT.ints D ++ encIs [(nF : Int)] ++ encR FT.ints (F.take k) ++ r).length ≤ 1000000000 := by
  intro k hk r hr2
  have h1 := HLD D.length (Nat.le_refl _)
  rw [List.take_length] at h1
  have h4 := encIs_length [(nF : Int)] (by intro m hm; rw [List.mem_singleton] at hm; omega)
  have h2 := encR_length FT.ints 8 (F.take k) (fun _ _ => rfl) (fun x hx => hrf x (List.mem_of_mem_take hx))
  rw [List.length_take] at h2
  have h3 : min k F.length ≤ 1200 := by omega
  simp only [List.length_append] at h1 ⊢
  simp at h4
  omega
 have HLD := Lh HLD
 have HLF := Lh HLF
 have HRN : Hid (okI [(nF : Int)]) := by intro m hm; rw [List.mem_singleton] at hm; omega
 clear hb hd hf hr hrd hrf hlb hbase hnD hnF hbx hbk0 hne hbox hbase1
 go_in
 go_wp2_with fail
 refine nm.mono ?_
 clear nm
 generalize hW : (w.alloc (.cells #[xc, xn, xa, .slice aD nD cD, .slice aF nF cF] 63)) = W at *
 generalize hg3 : w.heap.size = g3 at *
 have HG3 : Hid (w.heap.size = g3) := hg3
 have HBX := Lh (show Below w.heap.size w W by rw [hg3]; exact HBX.out)
 clear hW hg3
 rintro e w1 ⟨a1, n1, c1, rfl, hbk⟩
 have HBK1 := Lh hbk
 have h3 := (hbk.box HBOX.out HNE.out).cell (j := 3) rfl
 clear hbk
 go_wp2_with fail
 go_loopw [0, 5] (fun v0 v5 wr => ∃ (k : Nat) (a2 : Option Addr) (n2 c2 : Nat), k ≤ nD ∧ v5 = .int .i64 k ∧ v0 = .slice a2 n2 c2 ∧ BK base W (.slice a n c) (lb ++ encIs [xc, xn, xa, (nD : Int)] ++ encR DT.ints (D.take k)) (.slice a2 n2 c2) wr) (fun _ i _ => nD - (intOf i).toNat)
 case atStart => exact ⟨0, _, _, _, Nat.zero_le _, rfl, rfl, by simpa [encR] using HBK1.out⟩
 case round =>
  obtain ⟨k, a2, n2, c2, hk, rfl, rfl, hbk⟩ := hrel
  have HBK := Lh hbk
  have hbox := hbk.box HBOX.out HNE.out
  have H3 := hbox.cell (j := 3) rfl
  by_cases hlt : k < nD
  ·
   have hkL : k < D.length := by rw [← HNN.out.1]; exact hlt
   have hrows : Rs DT.vs 3 wr (.slice aD D.length cD) D := by rw [← HNN.out.1]; exact HD.out wr (((Kept.of_below HBX.out).weaken (fun _ h => h.elim)).trans hbk.2.1 (fun _ _ h => h))
   obtain ⟨bD, oD, rfl, hbw, hat⟩ := hrows.at (by omega) (by decide)
   obtain ⟨d, hc⟩ : ∃ d, d = D[k] := ⟨_, rfl⟩
   have HC := Lh hc
   have HKW : Hid (Kept (fun k => (Value.slice a n c).ownBlock = some k) W wr) := hbk.2.1
   have HAT : Hid (∀ x, Kept (fun k => (Value.slice a n c).ownBlock = some k) W x → x.cell? ⟨bD, oD + k * 3, none⟩ = some (.int .i64 d.who) ∧ x.cell? ⟨bD, oD + k * 3 + 1, none⟩ = some (.int .i64 d.cur) ∧ x.cell? ⟨bD, oD + k * 3 + 2, none⟩ = some (.int .i64 d.amt)) := by
    intro x hx
    have hr := HD.out x (((Kept.of_below HBX.out).weaken (fun _ h => h.elim)).trans hx (fun _ _ h => h))
    rw [HNN.out.1] at hr
    rw [hc]
    exact ⟨hr.cells (by decide) hkL (j := 0) rfl, hr.cells (by decide) hkL (j := 1) rfl, hr.cells (by decide) hkL (j := 2) rfl⟩
   have HRG : Hid (okI [d.who, d.cur, d.amt]) := by rw [hc]; exact HRD.out _ (List.getElem_mem hkL)
   have HLL : Hid ((lb ++ encIs [xc, xn, xa, (nD : Int)] ++ encR DT.ints (D.take k)).length ≤ 1000000000) := Nat.le_trans (HLD.out k (by omega)) (by decide)
   have hk0 : (0 : Int) ≤ k := by omega
   have hk1 : (k : Int) < nD := by omega
   clear hrows hat hc hbk hbox
   go_upto_region 5 with fail
   refine wp_region_uni (S0 := fun x => Kept (fun k => (Value.slice a n c).ownBlock = some k) W x) (S := BL wr) 22 (by kernel_rfl) (Below.refl _ _).drew ?_
   refine uP 2 [(0, some 28, .slice a2 n2 c2), (1, some 29, .pointer (some ⟨g3, 3, none⟩))] (BLK.cls HKW.out) ?_
   refine uL 2 (some 30) (.slice (some ⟨bD, oD, none⟩) nD cD) (BLK.cls HKW.out) (p := ⟨g3, 3, none⟩) (fun w hSw => (HBOX.out.keptH hSw HNE.out).cell (j := 3) rfl) ?_
   refine uP 1 [(3, some 31, .int .i64 (k : Int))] (BLK.cls HKW.out) ?_
   simp only [zq]
   refine uG 4 (some 32) (.pointer (some ⟨bD, oD + k * 3, none⟩)) (BLK.cls HKW.out) ?_
   refine uP 1 [(5, some 33, .pointer (some ⟨bD, oD + k * 3, none⟩))] (BLK.cls HKW.out) ?_
   refine uL 6 (some 34) (.int .i64 d.who) (BLK.cls HKW.out) (p := ⟨bD, oD + k * 3, none⟩) (fun w hSw => (HAT.out w hSw).1) ?_
   simp only [zq]
   refine uP 1 [(7, some 35, .pointer (some ⟨g3, 3, none⟩))] (BLK.cls HKW.out) ?_
   refine uL 8 (some 36) (.slice (some ⟨bD, oD, none⟩) nD cD) (BLK.cls HKW.out) (p := ⟨g3, 3, none⟩) (fun w hSw => (HBOX.out.keptH hSw HNE.out).cell (j := 3) rfl) ?_
   refine uP 1 [(9, some 37, .int .i64 (k : Int))] (BLK.cls HKW.out) ?_
   simp only [zq]
   refine uG 10 (some 38) (.pointer (some ⟨bD, oD + k * 3, none⟩)) (BLK.cls HKW.out) ?_
   refine uP 1 [(11, some 39, .pointer (some ⟨bD, oD + k * 3 + 1, none⟩))] (BLK.cls HKW.out) ?_
   refine uL 12 (some 40) (.int .i64 d.cur) (BLK.cls HKW.out) (p := ⟨bD, oD + k * 3 + 1, none⟩) (fun w hSw => (HAT.out w hSw).2.1) ?_
   simp only [zq]
   refine uP 1 [(13, some 41, .pointer (some ⟨g3, 3, none⟩))] (BLK.cls HKW.out) ?_
   refine uL 14 (some 42) (.slice (some ⟨bD, oD, none⟩) nD cD) (BLK.cls HKW.out) (p := ⟨g3, 3, none⟩) (fun w hSw => (HBOX.out.keptH hSw HNE.out).cell (j := 3) rfl) ?_
   refine uP 1 [(15, some 43, .int .i64 (k : Int))] (BLK.cls HKW.out) ?_
   simp only [zq]
   refine uG 16 (some 44) (.pointer (some ⟨bD, oD + k * 3, none⟩)) (BLK.cls HKW.out) ?_
   refine uP 1 [(17, some 45, .pointer (some ⟨bD, oD + k * 3 + 2, none⟩))] (BLK.cls HKW.out) ?_
   refine uL 18 (some 46) (.int .i64 d.amt) (BLK.cls HKW.out) (p := ⟨bD, oD + k * 3 + 2, none⟩) (fun w hSw => (HAT.out w hSw).2.2) ?_
   simp only [zq]
   refine uS 19 rfl (fun wA19 hA19 K hK => ?_)
   go_simp
   have hkA : Kept (fun k => (Value.slice a n c).ownBlock = some k) W (wA19.alloc (.cells #[d.who, d.cur, d.amt] 3)) := (HKW.out.trans (Kept.of_below hA19) (fun _ _ h => h.elim)).alloc _
   refine hK.out _ _ (BL (wA19.alloc (.cells #[d.who, d.cur, d.amt] 3))) (BLK.cls hkA) (Below.refl _ _) ?_
   clear hK K
   try simp only [zq]
   refine uS 20 rfl (fun wA20 hA20 K hK => ?_)
   go_simp
   have hbl : Below wr.heap.size wr wA20 := (Below.alloc hA19 hA19.size (.cells #[d.who, d.cur, d.amt] 3)).trans (hA20.mono (by simp; exact Nat.le_succ_of_le hA19.size))
   have his : Is (wA19.alloc (.cells #[d.who, d.cur, d.amt] 3)) (.slice (some ⟨wA19.heap.size, 0, none⟩) 3 3) [d.who, d.cur, d.amt] := Is.block (l := [d.who, d.cur, d.amt]) (heap_new rfl) (Nat.le_refl _) (by simp [maxLen])
   refine (BK.num HBK.out hbl (his.mono hA20) HRG.out (by simp) HLL.out HBASE.out).mono ?_
   rintro e wn ⟨a3, n3, c3, rfl, hbk⟩
   refine hK.out _ _ (BK base W (.slice a n c) (lb ++ encIs [xc, xn, xa, (nD : Int)] ++ encR DT.ints (D.take k) ++ encIs [d.who, d.cur, d.amt]) (.slice a3 n3 c3)) BK.cls hbk ?_
   clear hbl his hbk
   clear hK K
   try simp only [zq]
   refine uP 1 [(21, some 0, .slice a3 n3 c3)] BK.cls ?_
   simp only [zq]
   refine wpAnyU_done (by kernel_rfl) (fun w1 hb1 => ?_) _
   have HBN := Lh hb1
   clear hb1
   go_wp2_with fail
   first
    | exact ⟨⟨k + 1, a3, n3, c3, by omega, by push_cast; rfl, rfl, by rw [encR_snoc _ hkL, ← HC.out, ← List.append_assoc]; exact HBN.out⟩, by simp [intOf]; omega⟩
    | ((repeat apply Exists.intro); exact ⟨⟨k + 1, a3, n3, c3, by omega, by push_cast; rfl, rfl, by rw [encR_snoc _ hkL, ← HC.out, ← List.append_assoc]; exact HBN.out⟩, rfl⟩)
  ·
   obtain rfl : nD = k := by omega
   rw [List.take_of_length_le (by rw [← HNN.out.1]; exact Nat.le_refl _)] at hbk
   have H4 := hbox.cell (j := 4) rfl
   have HLL : Hid ((lb ++ encIs [xc, xn, xa, (nD : Int)] ++ encR DT.ints D).length ≤ 1000000000) := by have h := HLD.out D.length (Nat.le_refl _); rw [List.take_length] at h; exact Nat.le_trans h (by decide)
   have nm := BK.num hbk ((Below.refl _ _).alloc (Nat.le_refl _) (.cells #[(nF : Int)] 3)) (Is.block (l := [(nF : Int)]) (cap := 1) (heap_alloc_new _ _) (by simp) (by simp [maxLen])) HRN.out (by simp) HLL.out HBASE.out
   clear hbk hbox HBK HLL
   go_wp2_with fail
   refine nm.mono ?_
   clear nm
   rintro e w2 ⟨a4, n4, c4, rfl, hbk⟩
   have HBK2 := Lh hbk
   have h4 := (hbk.box HBOX.out HNE.out).cell (j := 4) rfl
   clear hbk H4 H3 h3
   go_wp2_with fail
   go_loopw [0, 6] (fun v0 v6 wr => ∃ (j : Nat) (a2 : Option Addr) (n2 c2 : Nat), j ≤ nF ∧ v6 = .int .i64 j ∧ v0 = .slice a2 n2 c2 ∧ BK base W (.slice a n c) (lb ++ encIs [xc, xn, xa, (nD : Int)] ++ encR DT.ints D ++ encIs [(nF : Int)] ++ encR FT.ints (F.take j)) (.slice a2 n2 c2) wr) (fun _ i _ => nF - (intOf i).toNat)
   case atStart => exact ⟨0, _, _, _, Nat.zero_le _, rfl, rfl, by simpa [encR] using HBK2.out⟩
   case round =>
    obtain ⟨j, a2, n2, c2, hj, rfl, rfl, hbk⟩ := hrel
    have HBKF := Lh hbk
    have hbox := hbk.box HBOX.out HNE.out
    have H4 := hbox.cell (j := 4) rfl
    by_cases hlt : j < nF
    ·
     have hjL : j < F.length := by rw [← HNN.out.2.1]; exact hlt
     have hrows : Rs FT.vs 8 wr (.slice aF F.length cF) F := by rw [← HNN.out.2.1]; exact HF.out wr (((Kept.of_below HBX.out).weaken (fun _ h => h.elim)).trans hbk.2.1 (fun _ _ h => h))
     obtain ⟨bF, oF, rfl, hbw, hat⟩ := hrows.at (by omega) (by decide)
     obtain ⟨f, hc⟩ : ∃ f, f = F[j] := ⟨_, rfl⟩
     have HC := Lh hc
     have HRAN : Hid (wr.rangeAt bF (oF + j * 8) [f.cur, f.loss, f.p0, f.p1, f.p2, f.p3, f.p4, f.rest]) := by intro i u hu; rw [hc] at hu; exact hat j hjL i u hu
     have HRG : Hid (okI f.ints) := by rw [hc]; exact HRF.out _ (List.getElem_mem hjL)
     have HNEW : Hid ((wr.alloc (.cells #[(0:Int), (0:Int), (0:Int), (0:Int), (0:Int), (0:Int), (0:Int), (0:Int)] 159)).heap[wr.heap.size]? = some (.cells #[(0:Int), (0:Int), (0:Int), (0:Int), (0:Int), (0:Int), (0:Int), (0:Int)] 159 (0, 0))) := heap_alloc_new _ _
     have HNEW2 : Hid (((wr.alloc (.cells #[(0:Int), (0:Int), (0:Int), (0:Int), (0:Int), (0:Int), (0:Int), (0:Int)] 159)).setRow wr.heap.size #[f.cur, f.loss, f.p0, f.p1, f.p2, f.p3, f.p4, f.rest]).heap[wr.heap.size]? = some (.cells #[f.cur, f.loss, f.p0, f.p1, f.p2, f.p3, f.p4, f.rest] 159 (0, 0))) := setRow_heap _ _ _ _ _ _ (heap_alloc_new _ _)
     have HSZ : Hid ((Tryz.prog.info? 159).map (·.size) = some (#[f.cur, f.loss, f.p0, f.p1, f.p2, f.p3, f.p4, f.rest] : Array Value).size) := by show _ = _; rw [fallSz]; rfl
     have HONE : Hid ((#[f.cur, f.loss, f.p0, f.p1, f.p2, f.p3, f.p4, f.rest] : Array Value).all (·.oneCell') = true) := by show _ = true; simp [Value.oneCell']
     have HAL : Hid (Below wr.heap.size wr ((wr.alloc (.cells #[(0:Int), (0:Int), (0:Int), (0:Int), (0:Int), (0:Int), (0:Int), (0:Int)] 159)).setRow wr.heap.size #[f.cur, f.loss, f.p0, f.p1, f.p2, f.p3, f.p4, f.rest])) := (Bn).trans (setRow_below (Nat.le_refl _) _)
     have hnF : (Value.slice a2 n2 c2).ownBlock ≠ some wr.heap.size := fun e => by have := OwnB.lt hbk.1 _ e; omega
     have HNF := Lh hnF
     have HSW : Hid (((wr.alloc (.cells #[(0:Int), (0:Int), (0:Int), (0:Int), (0:Int), (0:Int), (0:Int), (0:Int)] 159)).setRow wr.heap.size #[f.cur, f.loss, f.p0, f.p1, f.p2, f.p3, f.p4, f.rest]).heap.size = wr.heap.size + 1) := by show _ = _; simp [World.setRow]
     have HBASE2 : Hid (base ≤ ((wr.alloc (.cells #[(0:Int), (0:Int), (0:Int), (0:Int), (0:Int), (0:Int), (0:Int), (0:Int)] 159)).setRow wr.heap.size #[f.cur, f.loss, f.p0, f.p1, f.p2, f.p3, f.p4, f.rest]).heap.size) := Nat.le_trans HBASE.out (Nat.le_trans hbk.2.1.size HAL.out.size)
     have hk0 : (0 : Int) ≤ j := by omega
     have hk1 : (j : Int) < nF := by omega
     clear hrows hat hc hbk hbox hnF
     obtain ⟨W2, hW2⟩ : ∃ W2, W2 = (wr.alloc (.cells #[(0:Int), (0:Int), (0:Int), (0:Int), (0:Int), (0:Int), (0:Int), (0:Int)] 159)).setRow wr.heap.size #[f.cur, f.loss, f.p0, f.p1, f.p2, f.p3, f.p4, f.rest] := ⟨_, rfl⟩
     have HBF : Hid (HT W2 wr.heap.size 159 [f.cur, f.loss, f.p0, f.p1, f.p2, f.p3, f.p4, f.rest]) := by show HT _ _ _ _; rw [hW2]; exact HNEW2.out
     have hf0 := HBF.out.cell (j := 0) rfl
     have hf1 := HBF.out.cell (j := 1) rfl
     have HBK0 : Hid (BK base W2 (.slice a2 n2 c2) (lb ++ encIs [xc, xn, xa, (nD : Int)] ++ encR DT.ints D ++ encIs [(nF : Int)] ++ encR FT.ints (F.take j)) (.slice a2 n2 c2) W2) := by show BK _ _ _ _ _ _; rw [hW2]; exact BK.start (OwnB.below HBKF.out.1 HAL.out)
     have hbw2 : base ≤ W2.heap.size := by rw [hW2]; exact HBASE2.out
     have hz2 : W2.heap.size = wr.heap.size + 1 := by rw [hW2]; exact HSW.out
     have nm := BK.num HBK0.out ((Below.refl _ _).alloc (Nat.le_refl _) (.cells #[f.cur, f.loss] 3)) (Is.block (l := [f.cur, f.loss]) (cap := 2) (heap_alloc_new _ _) (by simp) (by simp [maxLen])) (fun m hm => HRG.out m (by unfold FT.ints; simp only [List.mem_cons, List.not_mem_nil, or_false] at hm ⊢; rcases hm with h | h <;> simp [h])) (by simp) (by have h := HLF.out j (by omega) [] (by simp); rw [List.append_nil] at h; exact h) hbw2
     rw [hz2] at nm
     have HBW2 := Lh hbw2
     have HW2 := Lh hW2
     rw [hW2] at hf0 hf1
     rw [hW2] at nm
     clear hbw2 hz2 hW2
     go_wp2_with (first
      | (refine wpList_load_mid rfl 159 (.tmp 65) rfl bF (oF + j * 8) rfl [f.cur, f.loss, f.p0, f.p1, f.p2, f.p3, f.p4, f.rest] _ HRAN.out Tryz.underlying159 rfl HSZ.out ?_)
      | (refine wpList_store_row rfl 159 (.tmp 7) (.tmp 66) rfl wr.heap.size #[f.cur, f.loss, f.p0, f.p1, f.p2, f.p3, f.p4, f.rest] rfl rfl 159 #[(0:Int), (0:Int), (0:Int), (0:Int), (0:Int), (0:Int), (0:Int), (0:Int)] HNEW.out HSZ.out rfl HONE.out ?_)
      | fail)
     rw [← HW2.out] at nm ⊢
     refine nm.mono ?_
     clear nm hf0 hf1
     rintro e w5 ⟨a5, n5, c5, rfl, hbk⟩
     have HBK5 := Lh hbk
     clear hbk
     go_wp2_with fail
     go_loopw [0, 8] (fun v0 v8 wi => ∃ (k : Nat) (a6 : Option Addr) (n6 c6 : Nat), k ≤ 5 ∧ v8 = .int .i64 k ∧ v0 = .slice a6 n6 c6 ∧ BK base W2 (.slice a2 n2 c2) (lb ++ encIs [xc, xn, xa, (nD : Int)] ++ encR DT.ints D ++ encIs [(nF : Int)] ++ encR FT.ints (F.take j) ++ encIs [f.cur, f.loss] ++ encIs ([f.p0, f.p1, f.p2, f.p3, f.p4].take k)) (.slice a6 n6 c6) wi) (fun _ i _ => 5 - (intOf i).toNat)
     case atStart => exact ⟨0, _, _, _, Nat.zero_le _, rfl, rfl, by simpa [encIs] using HBK5.out⟩
     case round =>
      obtain ⟨k, a6, n6, c6, hk, rfl, rfl, hbk⟩ := hrel
      have hbf := hbk.box HBF.out HNF.out
      have hLL : (lb ++ encIs [xc, xn, xa, (nD : Int)] ++ encR DT.ints D ++ encIs [(nF : Int)] ++ encR FT.ints (F.take j) ++ encIs [f.cur, f.loss] ++ encIs ([f.p0, f.p1, f.p2, f.p3, f.p4].take k)).length ≤ 1000000000 := by
       have h1 := encIs_length [f.cur, f.loss] (fun m hm => HRG.out m (by unfold FT.ints; simp only [List.mem_cons, List.not_mem_nil, or_false] at hm ⊢; rcases hm with h | h <;> simp [h]))
       have h2 := encIs_length ([f.p0, f.p1, f.p2, f.p3, f.p4].take k) (fun m hm => HRG.out m (by have := List.mem_of_mem_take hm; unfold FT.ints; simp only [List.mem_cons, List.not_mem_nil, or_false] at this ⊢; rcases this with h | h | h | h | h <;> simp [h]))
       have h3 := HLF.out j (by omega) (encIs [f.cur, f.loss] ++ encIs ([f.p0, f.p1, f.p2, f.p3, f.p4].take k)) (by
        rw [List.length_append]
        rw [List.length_take] at h2
        simp at h1 h2
        omega)
       rw [← List.append_assoc] at h3
       exact h3
      by_cases hlt5 : k < 5
      ·
       obtain ⟨x, hx1, hx2, hx3⟩ := five_at f.cur f.loss f.p0 f.p1 f.p2 f.p3 f.p4 f.rest k hlt5
       have hcl := hbf.cell (j := 2 + k) hx3
       have hxr : okI [x] := fun m hm => by
        rw [List.mem_singleton] at hm
        subst hm
        exact HRG.out m (by unfold FT.ints; simp only [List.mem_cons, List.not_mem_nil, or_false] at hx2 ⊢; rcases hx2 with h | h | h | h | h <;> simp [h])
       have nm := BK.num hbk ((Below.refl _ _).alloc (Nat.le_refl _) (.cells #[x] 3)) (Is.block (l := [x]) (cap := 1) (heap_alloc_new _ _) (by simp) (by simp [maxLen])) hxr (by simp) hLL HBW2.out
       have HX1 := Lh hx1
       clear hx1 hx2 hx3 hxr hbk hbf hLL
       go_wp2_with fail
       refine nm.mono ?_
       clear nm
       rintro e w6 ⟨a7, n7, c7, rfl, hbk⟩
       rw [List.append_assoc, ← encIs_app, ← HX1.out] at hbk
       have HBK7 := Lh hbk
       clear hbk hcl
       go_wp2_with fail
       exact ⟨⟨k + 1, a7, n7, c7, by omega, by push_cast; rfl, rfl, HBK7.out⟩, by simp [intOf]; omega⟩
      ·
       obtain rfl : k = 5 := by omega
       have hc7 := hbf.cell (j := 7) rfl
       have nm := BK.num hbk ((Below.refl _ _).alloc (Nat.le_refl _) (.cells #[f.rest] 3)) (Is.block (l := [f.rest]) (cap := 1) (heap_alloc_new _ _) (by simp) (by simp [maxLen])) (fun m hm => HRG.out m (by unfold FT.ints; rw [List.mem_singleton] at hm; simp [hm])) (by simp) hLL HBW2.out
       clear hbk hbf hLL
       go_wp2_with fail
       refine nm.mono ?_
       clear nm
       rintro e w6 ⟨a7, n7, c7, rfl, hbk⟩
       have hb7 := BK.trans HBKF.out (by rw [HW2.out]; exact HAL.out) hbk
       have HB7 : Hid (BK base W (.slice a n c) (lb ++ encIs [xc, xn, xa, (nD : Int)] ++ encR DT.ints D ++ encIs [(nF : Int)] ++ encR FT.ints (F.take (j + 1))) (.slice a7 n7 c7) w6) := by
        rw [encR_snoc _ hjL, ← HC.out]
        have e : encIs f.ints = encIs [f.cur, f.loss] ++ encIs [f.p0, f.p1, f.p2, f.p3, f.p4] ++ encIs [f.rest] := by rw [← encIs_app, ← encIs_app]; rfl
        rw [e]
        simp only [List.append_assoc, List.take_succ_cons, List.take_zero] at hb7 ⊢
        exact hb7
       clear hbk hb7 hc7
       go_wp2_with fail
       first
        | exact ⟨⟨j + 1, a7, n7, c7, by omega, by push_cast; rfl, rfl, HB7.out⟩, by simp [intOf]; omega⟩
        | ((repeat apply Exists.intro); exact ⟨⟨j + 1, a7, n7, c7, by omega, by push_cast; rfl, rfl, HB7.out⟩, rfl⟩)
    ·
     obtain rfl : j = nF := by omega
     rw [List.take_of_length_le (by rw [← HNN.out.2.1]; exact Nat.le_refl _)] at hbk
     have HFIN : Hid (BK base W (.slice a n c) (lb ++ encRepP xc xn xa D F) (.slice a2 n2 c2) wr) := by
      have h := hbk
      rw [HNN.out.1, HNN.out.2.1] at h
      unfold encRepP
      simp only [List.append_assoc] at h ⊢
      exact h
     clear hbk hbox HBKF
     go_wp2_with fail
     go_ret
     exact ⟨_, _, _, rfl, HFIN.out.1, ((Kept.of_below HBX.out).weaken (fun _ h => h.elim)).trans HFIN.out.2.1 (fun _ _ h => h), fun k hk => (HFIN.out.2.2 k hk).imp id (fun h => Nat.le_trans HBX.out.size h)⟩
end Cam
