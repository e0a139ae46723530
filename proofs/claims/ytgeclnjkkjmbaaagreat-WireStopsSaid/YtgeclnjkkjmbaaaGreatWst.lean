import Derived.Test.YtgeclnjkkjmbaaaGreatWsp
import Derived.Test.YtgeclnjkkjmbaaaGreatWb
/- WireStops: the walk. -/
namespace Cam
open Go Go.RowKit Go.Proofs

/-- 'make([]T, n)' of rows -/
theorem make_rows {α : Type} {P : Program} {w : World} {ops : Array Oper} {rest : List Oper} {o : Oper} {a : Act} {Q : Exit → Act → World → Prop}
    (hg : o.guard = none) (l c : Operand) (t : TypeId) (hop : o.op = Op.makeSlice t l c) {e : TypeId} {K B : Nat} (E : Elem P t e K B) (enc : α → List Value) (x : α) (hlen : ∀ a, (enc a).length = K) (hK : 0 < K)
    (hz : ∀ i, P.info? e = some i → i.zero = some (.agg (enc x).toArray)) (n : Nat) (L : Int) (hl : a.eval l = .int .i64 L) (hc : a.eval c = .int .i64 L) (hL : L = (n : Int)) (hn : n ≤ 65536) (hB : B ≤ 1024)
    (h : ∀ w', OwnR enc K e w' w.heap.size (.slice (some ⟨w.heap.size, 0, none⟩) n n) (List.replicate n x) → Below w.heap.size w w' → wpList P ops Q rest (a.put o.dst (.slice (some ⟨w.heap.size, 0, none⟩) n n)) w') : wpList P ops Q (o :: rest) a w := by
  obtain ⟨ht, ⟨i, z, hi, hz', hs, hby, hzs⟩, hp⟩ := E
  have hzz := hz i hi
  rw [hz'] at hzz
  cases hzz
  refine wpList_make_full w hg l c t hop w.heap.size e i _ K ht hi hz' hs .i64 .i64 L L n hl hc hL hL (by rw [hby]; have := Nat.mul_le_mul hB hn; omega) (by unfold maxLen; omega) (Nat.le_refl _) (fun w' h1 h2 => ?_)
  refine h w' ⟨hlen, ?_⟩ ((Below.refl _ _).grown h2 (Nat.le_refl _) (fun k hk => by cases hk))
  rw [List.length_replicate, ← made_rows enc x K n (hlen x) hK]
  exact h1
theorem zero_due : ∀ i, Tryz.prog.info? 106 = some i → i.zero = some (.agg (DT.vs dZ).toArray) := by
  intro i hi
  have h : (Tryz.prog.info? 106).map (·.zero) = some (some (.agg #[.int .i64 0, .int .i64 0, .int .i64 0])) := by kernel_rfl
  rw [hi] at h
  simp only [Option.map_some, Option.some.injEq] at h
  exact h
theorem zero_fall : ∀ i, Tryz.prog.info? 159 = some i → i.zero = some (.agg (FT.vs fZ).toArray) := by
  intro i hi
  have h : (Tryz.prog.info? 159).map (·.zero) = some (some (.agg #[.int .i64 0, .int .i64 0, .int .i64 0, .int .i64 0, .int .i64 0, .int .i64 0, .int .i64 0, .int .i64 0])) := by kernel_rfl
  rw [hi] at h
  simp only [Option.map_some, Option.some.injEq] at h
  exact h
theorem zero_pos : ∀ i, Tryz.prog.info? 98 = some i → i.zero = some (.agg (PoT.vs pZ).toArray) := by
  intro i hi
  have h : (Tryz.prog.info? 98).map (·.zero) = some (some (.agg #[.int .i64 0, .int .i64 0, .int .i64 0, .int .i64 0])) := by kernel_rfl
  rw [hi] at h
  simp only [Option.map_some, Option.some.injEq] at h
  exact h
set_option maxRecDepth 100000 in
set_option maxHeartbeats 6400000 in
theorem WireStops_walk (w : World) (n : Int) :
    Calls Tryz.prog 5 #[.int .i64 n] w fun e w' => e = .returned (.bool true) ∧ Below w.heap.size w w' := by
  by_cases h0 : n < 0
  · go_enter Tryz.func5, Tryz.ntmps5
    go_wp2_with fail
    go_ret
    exact ⟨rfl, Below.refl _ _⟩
  by_cases h1 : 1 < n
  · go_enter Tryz.func5, Tryz.ntmps5
    go_wp2_with fail
    go_ret
    exact ⟨rfl, Below.refl _ _⟩
  have hn0 : 0 ≤ n := by omega
  have hn1 : n ≤ 1 := by omega
  by_cases h2 : n = 1
  · have e1 : (n == 1) = true := by simp [h2]
    obtain ⟨m, hm⟩ : ∃ m : Nat, m = 1025 := ⟨_, rfl⟩
    have hm64 : m ≤ 65536 := by omega
    have HW1 : Hid (repW (List.replicate m dZ) [] = true) := by show _ = _; unfold repW; simp; omega
    have HW2 : Hid ((sZ m).bad = true) := by show _ = _; rw [sZ_bad]; simp; omega
    have HW3 : Hid (repW [] (List.replicate m fZ) = true) := by show _ = _; unfold repW; simp; omega
    have HE1 : Hid (bE (repW (List.replicate m dZ) []) (encRep 0 0 0 (List.replicate m dZ) []) = 6 ∧ bL (repW (List.replicate m dZ) []) (encRep 0 0 0 (List.replicate m dZ) []) = []) := by show _ ∧ _; rw [HW1.out]; exact ⟨by unfold bE; rw [if_pos (.inl rfl)], by unfold bL; rw [if_pos (.inl rfl)]⟩
    have HE2 : Hid (bE (sZ m).bad (sZ m).bytes = 6 ∧ bL (sZ m).bad (sZ m).bytes = []) := by show _ ∧ _; rw [HW2.out]; exact ⟨by unfold bE; rw [if_pos (.inl rfl)], by unfold bL; rw [if_pos (.inl rfl)]⟩
    have HE3 : Hid (bE (repW [] (List.replicate m fZ)) (encRep 0 0 0 [] (List.replicate m fZ)) = 6 ∧ bL (repW [] (List.replicate m fZ)) (encRep 0 0 0 [] (List.replicate m fZ)) = []) := by show _ ∧ _; rw [HW3.out]; exact ⟨by unfold bE; rw [if_pos (.inl rfl)], by unfold bL; rw [if_pos (.inl rfl)]⟩
    have HKD : Hid (∀ x ∈ List.replicate m dZ, okI x.ints) := rows0 (by intro n hn; simp [DT.ints, dZ] at hn; omega) m
    have HKF : Hid (∀ x ∈ List.replicate m fZ, okI x.ints) := rows0 (by intro n hn; simp [FT.ints, fZ] at hn; omega) m
    have hm0 : m = 1025 := hm
    clear hm
    have HM : Hid ((1024 : Int) + n = (m : Int)) := by show _ = _; omega
    clear h2 hm0
    go_enter Tryz.func5, Tryz.ntmps5
    have HSZ1 : Hid ((Tryz.prog.info? 63).map (·.size) = some (#[.int .i64 0, .int .i64 0, .int .i64 0, .slice (some ⟨w.heap.size, 0, none⟩) m m, .slice none 0 0] : Array Value).size) := by show _ = _; rw [repSz]; rfl
    have HSE1 : Hid ((#[.int .i64 0, .int .i64 0, .int .i64 0, .slice none 0 0, .slice none 0 0] : Array Value).size = (#[.int .i64 0, .int .i64 0, .int .i64 0, .slice (some ⟨w.heap.size, 0, none⟩) m m, .slice none 0 0] : Array Value).size) := by show _ = _; rfl
    have HON1 : Hid ((#[.int .i64 0, .int .i64 0, .int .i64 0, .slice (some ⟨w.heap.size, 0, none⟩) m m, .slice none 0 0] : Array Value).all (·.oneCell') = true) := by show _ = true; simp [Value.oneCell']
    go_upto_region 4 with (first
      | (at_make; refine make_rows rfl (.tmp 23) (.tmp 23) 60 rfl elem_due DT.vs dZ DT.len (by decide) zero_due m _ rfl rfl HM.out hm64 (by decide) ?_; intro y1 ho1 hb1)
      | (refine wpList_store_row rfl 63 (.tmp 3) (.tmp 25) rfl y1.heap.size #[.int .i64 0, .int .i64 0, .int .i64 0, .slice (some ⟨w.heap.size, 0, none⟩) m m, .slice none 0 0] rfl rfl 63 #[.int .i64 0, .int .i64 0, .int .i64 0, .slice none 0 0, .slice none 0 0] (heap_alloc_new _ _) HSZ1.out HSE1.out HON1.out ?_)
      | fail)
    have hbn : Below y1.heap.size y1 (y1.alloc (.cells #[.int .i64 0, .int .i64 0, .int .i64 0, .slice none 0 0, .slice none 0 0] 63)) := (Below.refl _ _).alloc (Nat.le_refl _) _
    have hbs : Below y1.heap.size y1 ((y1.alloc (.cells #[.int .i64 0, .int .i64 0, .int .i64 0, .slice none 0 0, .slice none 0 0] 63)).setRow y1.heap.size #[.int .i64 0, .int .i64 0, .int .i64 0, .slice (some ⟨w.heap.size, 0, none⟩) m m, .slice none 0 0]) := hbn.trans (setRow_below (Nat.le_refl _) _)
    have hx1 : HT ((y1.alloc (.cells #[.int .i64 0, .int .i64 0, .int .i64 0, .slice none 0 0, .slice none 0 0] 63)).setRow y1.heap.size #[.int .i64 0, .int .i64 0, .int .i64 0, .slice (some ⟨w.heap.size, 0, none⟩) m m, .slice none 0 0]) y1.heap.size 63 [.int .i64 0, .int .i64 0, .int .i64 0, .slice (some ⟨w.heap.size, 0, none⟩) m m, .slice none 0 0] := setRow_heap _ _ _ _ _ _ (heap_alloc_new _ _)
    have ho1 := ho1.below hbs
    have hbt1 := (hb1.trans (hbs.mono hb1.size))
    obtain ⟨W1, hW1⟩ : ∃ x, x = ((y1.alloc (.cells #[.int .i64 0, .int .i64 0, .int .i64 0, .slice none 0 0, .slice none 0 0] 63)).setRow y1.heap.size #[.int .i64 0, .int .i64 0, .int .i64 0, .slice (some ⟨w.heap.size, 0, none⟩) m m, .slice none 0 0]) := ⟨_, rfl⟩
    rw [← hW1] at hbt1 ho1 hx1 ⊢
    clear hW1
    have HSZ2 : Hid ((Tryz.prog.info? 41).map (·.size) = some (#[.int .i64 0, .int .i64 0, .int .i64 0, .slice none 0 0, .slice none 0 0, .slice none 0 0, .int .i64 0, .slice none 0 0, .slice (some ⟨W1.heap.size, 0, none⟩) m m, .int .i64 0, .slice none 0 0, .slice none 0 0, .slice none 0 0, .slice none 0 0, .slice none 0 0] : Array Value).size) := by show _ = _; rw [stSz]; rfl
    have HSE2 : Hid ((#[.int .i64 0, .int .i64 0, .int .i64 0, .slice none 0 0, .slice none 0 0, .slice none 0 0, .int .i64 0, .slice none 0 0, .slice none 0 0, .int .i64 0, .slice none 0 0, .slice none 0 0, .slice none 0 0, .slice none 0 0, .slice none 0 0] : Array Value).size = (#[.int .i64 0, .int .i64 0, .int .i64 0, .slice none 0 0, .slice none 0 0, .slice none 0 0, .int .i64 0, .slice none 0 0, .slice (some ⟨W1.heap.size, 0, none⟩) m m, .int .i64 0, .slice none 0 0, .slice none 0 0, .slice none 0 0, .slice none 0 0, .slice none 0 0] : Array Value).size) := by show _ = _; rfl
    have HON2 : Hid ((#[.int .i64 0, .int .i64 0, .int .i64 0, .slice none 0 0, .slice none 0 0, .slice none 0 0, .int .i64 0, .slice none 0 0, .slice (some ⟨W1.heap.size, 0, none⟩) m m, .int .i64 0, .slice none 0 0, .slice none 0 0, .slice none 0 0, .slice none 0 0, .slice none 0 0] : Array Value).all (·.oneCell') = true) := by show _ = true; simp [Value.oneCell']
    go_upto_region 5 with (first
      | (at_make; refine make_rows rfl (.tmp 27) (.tmp 27) 30 rfl elem_pos PoT.vs pZ PoT.len (by decide) zero_pos m _ rfl rfl HM.out hm64 (by decide) ?_; intro y2 ho2 hb2)
      | (refine wpList_store_row rfl 41 (.tmp 4) (.tmp 30) rfl y2.heap.size #[.int .i64 0, .int .i64 0, .int .i64 0, .slice none 0 0, .slice none 0 0, .slice none 0 0, .int .i64 0, .slice none 0 0, .slice (some ⟨W1.heap.size, 0, none⟩) m m, .int .i64 0, .slice none 0 0, .slice none 0 0, .slice none 0 0, .slice none 0 0, .slice none 0 0] rfl rfl 41 #[.int .i64 0, .int .i64 0, .int .i64 0, .slice none 0 0, .slice none 0 0, .slice none 0 0, .int .i64 0, .slice none 0 0, .slice none 0 0, .int .i64 0, .slice none 0 0, .slice none 0 0, .slice none 0 0, .slice none 0 0, .slice none 0 0] (heap_alloc_new _ _) HSZ2.out HSE2.out HON2.out ?_)
      | fail)
    have hbn : Below y2.heap.size y2 (y2.alloc (.cells #[.int .i64 0, .int .i64 0, .int .i64 0, .slice none 0 0, .slice none 0 0, .slice none 0 0, .int .i64 0, .slice none 0 0, .slice none 0 0, .int .i64 0, .slice none 0 0, .slice none 0 0, .slice none 0 0, .slice none 0 0, .slice none 0 0] 41)) := (Below.refl _ _).alloc (Nat.le_refl _) _
    have hbs : Below y2.heap.size y2 ((y2.alloc (.cells #[.int .i64 0, .int .i64 0, .int .i64 0, .slice none 0 0, .slice none 0 0, .slice none 0 0, .int .i64 0, .slice none 0 0, .slice none 0 0, .int .i64 0, .slice none 0 0, .slice none 0 0, .slice none 0 0, .slice none 0 0, .slice none 0 0] 41)).setRow y2.heap.size #[.int .i64 0, .int .i64 0, .int .i64 0, .slice none 0 0, .slice none 0 0, .slice none 0 0, .int .i64 0, .slice none 0 0, .slice (some ⟨W1.heap.size, 0, none⟩) m m, .int .i64 0, .slice none 0 0, .slice none 0 0, .slice none 0 0, .slice none 0 0, .slice none 0 0]) := hbn.trans (setRow_below (Nat.le_refl _) _)
    have hx2 : HT ((y2.alloc (.cells #[.int .i64 0, .int .i64 0, .int .i64 0, .slice none 0 0, .slice none 0 0, .slice none 0 0, .int .i64 0, .slice none 0 0, .slice none 0 0, .int .i64 0, .slice none 0 0, .slice none 0 0, .slice none 0 0, .slice none 0 0, .slice none 0 0] 41)).setRow y2.heap.size #[.int .i64 0, .int .i64 0, .int .i64 0, .slice none 0 0, .slice none 0 0, .slice none 0 0, .int .i64 0, .slice none 0 0, .slice (some ⟨W1.heap.size, 0, none⟩) m m, .int .i64 0, .slice none 0 0, .slice none 0 0, .slice none 0 0, .slice none 0 0, .slice none 0 0]) y2.heap.size 41 [.int .i64 0, .int .i64 0, .int .i64 0, .slice none 0 0, .slice none 0 0, .slice none 0 0, .int .i64 0, .slice none 0 0, .slice (some ⟨W1.heap.size, 0, none⟩) m m, .int .i64 0, .slice none 0 0, .slice none 0 0, .slice none 0 0, .slice none 0 0, .slice none 0 0] := setRow_heap _ _ _ _ _ _ (heap_alloc_new _ _)
    have ho2 := ho2.below hbs
    have hbt2 := (hb2.trans (hbs.mono hb2.size))
    obtain ⟨W2, hW2⟩ : ∃ x, x = ((y2.alloc (.cells #[.int .i64 0, .int .i64 0, .int .i64 0, .slice none 0 0, .slice none 0 0, .slice none 0 0, .int .i64 0, .slice none 0 0, .slice none 0 0, .int .i64 0, .slice none 0 0, .slice none 0 0, .slice none 0 0, .slice none 0 0, .slice none 0 0] 41)).setRow y2.heap.size #[.int .i64 0, .int .i64 0, .int .i64 0, .slice none 0 0, .slice none 0 0, .slice none 0 0, .int .i64 0, .slice none 0 0, .slice (some ⟨W1.heap.size, 0, none⟩) m m, .int .i64 0, .slice none 0 0, .slice none 0 0, .slice none 0 0, .slice none 0 0, .slice none 0 0]) := ⟨_, rfl⟩
    rw [← hW2] at hbt2 ho2 hx2 ⊢
    clear hW2
    have HSZ3 : Hid ((Tryz.prog.info? 63).map (·.size) = some (#[.int .i64 0, .int .i64 0, .int .i64 0, .slice none 0 0, .slice (some ⟨W2.heap.size, 0, none⟩) m m] : Array Value).size) := by show _ = _; rw [repSz]; rfl
    have HSE3 : Hid ((#[.int .i64 0, .int .i64 0, .int .i64 0, .slice none 0 0, .slice none 0 0] : Array Value).size = (#[.int .i64 0, .int .i64 0, .int .i64 0, .slice none 0 0, .slice (some ⟨W2.heap.size, 0, none⟩) m m] : Array Value).size) := by show _ = _; rfl
    have HON3 : Hid ((#[.int .i64 0, .int .i64 0, .int .i64 0, .slice none 0 0, .slice (some ⟨W2.heap.size, 0, none⟩) m m] : Array Value).all (·.oneCell') = true) := by show _ = true; simp [Value.oneCell']
    go_upto_region 6 with (first
      | (at_make; refine make_rows rfl (.tmp 32) (.tmp 32) 61 rfl elem_fall FT.vs fZ FT.len (by decide) zero_fall m _ rfl rfl HM.out hm64 (by decide) ?_; intro y3 ho3 hb3)
      | (refine wpList_store_row rfl 63 (.tmp 5) (.tmp 34) rfl y3.heap.size #[.int .i64 0, .int .i64 0, .int .i64 0, .slice none 0 0, .slice (some ⟨W2.heap.size, 0, none⟩) m m] rfl rfl 63 #[.int .i64 0, .int .i64 0, .int .i64 0, .slice none 0 0, .slice none 0 0] (heap_alloc_new _ _) HSZ3.out HSE3.out HON3.out ?_)
      | fail)
    have hbn : Below y3.heap.size y3 (y3.alloc (.cells #[.int .i64 0, .int .i64 0, .int .i64 0, .slice none 0 0, .slice none 0 0] 63)) := (Below.refl _ _).alloc (Nat.le_refl _) _
    have hbs : Below y3.heap.size y3 ((y3.alloc (.cells #[.int .i64 0, .int .i64 0, .int .i64 0, .slice none 0 0, .slice none 0 0] 63)).setRow y3.heap.size #[.int .i64 0, .int .i64 0, .int .i64 0, .slice none 0 0, .slice (some ⟨W2.heap.size, 0, none⟩) m m]) := hbn.trans (setRow_below (Nat.le_refl _) _)
    have hx3 : HT ((y3.alloc (.cells #[.int .i64 0, .int .i64 0, .int .i64 0, .slice none 0 0, .slice none 0 0] 63)).setRow y3.heap.size #[.int .i64 0, .int .i64 0, .int .i64 0, .slice none 0 0, .slice (some ⟨W2.heap.size, 0, none⟩) m m]) y3.heap.size 63 [.int .i64 0, .int .i64 0, .int .i64 0, .slice none 0 0, .slice (some ⟨W2.heap.size, 0, none⟩) m m] := setRow_heap _ _ _ _ _ _ (heap_alloc_new _ _)
    have ho3 := ho3.below hbs
    have hbt3 := (hb3.trans (hbs.mono hb3.size))
    obtain ⟨W3, hW3⟩ : ∃ x, x = ((y3.alloc (.cells #[.int .i64 0, .int .i64 0, .int .i64 0, .slice none 0 0, .slice none 0 0] 63)).setRow y3.heap.size #[.int .i64 0, .int .i64 0, .int .i64 0, .slice none 0 0, .slice (some ⟨W2.heap.size, 0, none⟩) m m]) := ⟨_, rfl⟩
    rw [← hW3] at hbt3 ho3 hx3 ⊢
    clear hW3
    have h13 : Below W1.heap.size W1 W3 := hbt2.trans (hbt3.mono hbt2.size)
    have h03 : Below w.heap.size w W3 := hbt1.trans (h13.mono hbt1.size)
    have X1 := Lib.hid (hx1.below h13)
    have X2 := Lib.hid (hx2.below hbt3)
    have X3 := Lib.hid hx3
    have D1 := Lib.hid (ho1.rs.mono h13)
    have P2 := Lib.hid (ho2.rs.mono hbt3)
    have F3 := Lib.hid ho3.rs
    have HB0 := Lib.hid h03
    have HB3 : Hid (Below W3.heap.size W3 W3) := Below.refl _ _
    clear hx1 hx2 hx3 ho1 ho2 ho3 hb1 hb2 hb3 hbt1 hbt2 hbt3 h13 h03 hbn hbs HSE1 HON1 HSE2 HON2 HSE3 HON3
    have HST : Hid (∀ x, Below W3.heap.size W3 x → StC x none 0 0 none 0 0 none 0 0 none 0 0 (some ⟨W1.heap.size, 0, none⟩) m m none 0 0 none 0 0 none 0 0 none 0 0 none 0 0 [] (sZ m)) := fun x hb => ⟨Rs.nil MbT.len x, Rs.nil InT.len x, Rs.nil AsT.len x, Rs.nil TrT.len x, P2.out.mono hb, Rs.nil BaT.len x, Rs.nil PlT.len x, Rs.nil CaT.len x, Rs.nil BiT.len x, Rs.nil SV.len x, rfl, fun i h => by simp at h⟩
    have rp := Reply_any W3 0 0 0 _ _ (List.replicate m dZ) [] (by simp) (D1.out.mono HB3.out) (Rs.nil FT.len W3) HKD.out (fun x hx => by cases hx)
    unfold BytesPost at rp
    rw [HE1.out.1, HE1.out.2] at rp
    have HG : Hid (W3.heap[y1.heap.size]? = some (.cells #[.int .i64 0, .int .i64 0, .int .i64 0, .slice (some ⟨w.heap.size, 0, none⟩) m m, .slice none 0 0] 63 (0, 0))) := X1.out.below HB3.out
    go_wp2_with (first
      | (refine wpList_load_row rfl 63 (.tmp 3) rfl y1.heap.size rfl 63 #[.int .i64 0, .int .i64 0, .int .i64 0, .slice (some ⟨w.heap.size, 0, none⟩) m m, .slice none 0 0] (0, 0) _ HG.out Tryz.underlying63 rfl HSZ1.out ?_)
      | fail)
    refine rp.mono ?_
    clear rp HG
    rintro e w4 ⟨p1, n1, d1, rfl, ob1, hb⟩
    have HB4 := Lib.hid (bgo HB3.out hb HB3.out.size)
    have HO1 := Lib.hid ob1
    have BS1_4 := Lib.hid ob1.bs
    clear hb ob1
    obtain rfl : n1 = 0 := by obtain ⟨_, _, e⟩ := HO1.out.shape; injection e
    have st := State_any w4 none 0 0 none 0 0 none 0 0 none 0 0 (some ⟨W1.heap.size, 0, none⟩) m m none 0 0 none 0 0 none 0 0 none 0 0 none 0 0 [] (sZ m) (HST.out _ HB4.out) (sZ_ok m) (by simp [sZ, encG])
    unfold BytesPost at st
    rw [HE2.out.1, HE2.out.2] at st
    have HG : Hid (w4.heap[y2.heap.size]? = some (.cells #[.int .i64 0, .int .i64 0, .int .i64 0, .slice none 0 0, .slice none 0 0, .slice none 0 0, .int .i64 0, .slice none 0 0, .slice (some ⟨W1.heap.size, 0, none⟩) m m, .int .i64 0, .slice none 0 0, .slice none 0 0, .slice none 0 0, .slice none 0 0, .slice none 0 0] 41 (0, 0))) := X2.out.below HB4.out
    go_wp2_with (first
      | (refine wpList_load_row rfl 41 (.tmp 4) rfl y2.heap.size rfl 41 #[.int .i64 0, .int .i64 0, .int .i64 0, .slice none 0 0, .slice none 0 0, .slice none 0 0, .int .i64 0, .slice none 0 0, .slice (some ⟨W1.heap.size, 0, none⟩) m m, .int .i64 0, .slice none 0 0, .slice none 0 0, .slice none 0 0, .slice none 0 0, .slice none 0 0] (0, 0) _ HG.out Tryz.underlying41 rfl HSZ2.out ?_)
      | fail)
    refine st.mono ?_
    clear st HG
    rintro e w5 ⟨p2, n2, d2, rfl, ob2, hb⟩
    have HB5 := Lib.hid (bgo HB4.out hb HB4.out.size)
    have HO2 := Lib.hid ob2
    have BS2_5 := Lib.hid ob2.bs
    have BS1_5 := Lib.hid (BS1_4.out.mono hb)
    clear hb ob2
    obtain rfl : n2 = 0 := by obtain ⟨_, _, e⟩ := HO2.out.shape; injection e
    have rq := Reply_any w5 0 0 0 _ _ [] (List.replicate m fZ) (by simp) (Rs.nil DT.len w5) (F3.out.mono HB5.out) (fun x hx => by cases hx) HKF.out
    unfold BytesPost at rq
    rw [HE3.out.1, HE3.out.2] at rq
    have HG : Hid (w5.heap[y3.heap.size]? = some (.cells #[.int .i64 0, .int .i64 0, .int .i64 0, .slice none 0 0, .slice (some ⟨W2.heap.size, 0, none⟩) m m] 63 (0, 0))) := X3.out.below HB5.out
    go_wp2_with (first
      | (refine wpList_load_row rfl 63 (.tmp 5) rfl y3.heap.size rfl 63 #[.int .i64 0, .int .i64 0, .int .i64 0, .slice none 0 0, .slice (some ⟨W2.heap.size, 0, none⟩) m m] (0, 0) _ HG.out Tryz.underlying63 rfl HSZ3.out ?_)
      | fail)
    refine rq.mono ?_
    clear rq HG
    rintro e w6 ⟨p3, n3, d3, rfl, ob3, hb⟩
    have HB6 := Lib.hid (bgo HB5.out hb HB5.out.size)
    have HO3 := Lib.hid ob3
    have BS3_6 := Lib.hid ob3.bs
    have BS1_6 := Lib.hid (BS1_5.out.mono hb)
    have BS2_6 := Lib.hid (BS2_5.out.mono hb)
    clear hb ob3
    obtain rfl : n3 = 0 := by obtain ⟨_, _, e⟩ := HO3.out.shape; injection e
    have wk := wakes_any w6
    go_wp2_with fail
    refine wk.mono ?_
    clear wk
    rintro e wz ⟨rfl, hb⟩
    go_wp2_with fail
    go_ret
    exact ⟨rfl, bgo (bgo HB0.out HB6.out HB0.out.size) hb (bgo HB0.out HB6.out HB0.out.size).size⟩
  · have e1 : (n == 1) = false := by simp [h2]
    obtain ⟨m, hm⟩ : ∃ m : Nat, m = 1024 := ⟨_, rfl⟩
    have hm64 : m ≤ 65536 := by omega
    have HW1 : Hid (repW (List.replicate m dZ) [] = false) := by show _ = _; unfold repW; simp; omega
    have HW2 : Hid ((sZ m).bad = false) := by show _ = _; rw [sZ_bad]; simp; omega
    have HW3 : Hid (repW [] (List.replicate m fZ) = false) := by show _ = _; unfold repW; simp; omega
    have HL1 := Lib.hid (rep0 m (by omega)).1
    have HL2 := Lib.hid (sZ_len m (by omega))
    have HL3 := Lib.hid (rep0 m (by omega)).2
    have HE1 : Hid (bE (repW (List.replicate m dZ) []) (encRep 0 0 0 (List.replicate m dZ) []) = 0 ∧ bL (repW (List.replicate m dZ) []) (encRep 0 0 0 (List.replicate m dZ) []) = (encRep 0 0 0 (List.replicate m dZ) [])) := by
      have hl := HL1.out
      have hn : ¬ (false = true ∨ 65536 < (encRep 0 0 0 (List.replicate m dZ) []).length) := by rintro (h | h); cases h; omega
      show _ ∧ _
      rw [HW1.out]
      exact ⟨by unfold bE; rw [if_neg hn], by unfold bL; rw [if_neg hn]⟩
    have HE2 : Hid (bE (sZ m).bad (sZ m).bytes = 0 ∧ bL (sZ m).bad (sZ m).bytes = (sZ m).bytes) := by
      have hl := HL2.out
      have hn : ¬ (false = true ∨ 65536 < (sZ m).bytes.length) := by rintro (h | h); cases h; omega
      show _ ∧ _
      rw [HW2.out]
      exact ⟨by unfold bE; rw [if_neg hn], by unfold bL; rw [if_neg hn]⟩
    have HE3 : Hid (bE (repW [] (List.replicate m fZ)) (encRep 0 0 0 [] (List.replicate m fZ)) = 0 ∧ bL (repW [] (List.replicate m fZ)) (encRep 0 0 0 [] (List.replicate m fZ)) = (encRep 0 0 0 [] (List.replicate m fZ))) := by
      have hl := HL3.out
      have hn : ¬ (false = true ∨ 65536 < (encRep 0 0 0 [] (List.replicate m fZ)).length) := by rintro (h | h); cases h; omega
      show _ ∧ _
      rw [HW3.out]
      exact ⟨by unfold bE; rw [if_neg hn], by unfold bL; rw [if_neg hn]⟩
    have HKD : Hid (∀ x ∈ List.replicate m dZ, okI x.ints) := rows0 (by intro n hn; simp [DT.ints, dZ] at hn; omega) m
    have HKF : Hid (∀ x ∈ List.replicate m fZ, okI x.ints) := rows0 (by intro n hn; simp [FT.ints, fZ] at hn; omega) m
    have hm0 : m = 1024 := hm
    clear hm
    have HM : Hid ((1024 : Int) + n = (m : Int)) := by show _ = _; omega
    clear h2 hm0
    go_enter Tryz.func5, Tryz.ntmps5
    have HSZ1 : Hid ((Tryz.prog.info? 63).map (·.size) = some (#[.int .i64 0, .int .i64 0, .int .i64 0, .slice (some ⟨w.heap.size, 0, none⟩) m m, .slice none 0 0] : Array Value).size) := by show _ = _; rw [repSz]; rfl
    have HSE1 : Hid ((#[.int .i64 0, .int .i64 0, .int .i64 0, .slice none 0 0, .slice none 0 0] : Array Value).size = (#[.int .i64 0, .int .i64 0, .int .i64 0, .slice (some ⟨w.heap.size, 0, none⟩) m m, .slice none 0 0] : Array Value).size) := by show _ = _; rfl
    have HON1 : Hid ((#[.int .i64 0, .int .i64 0, .int .i64 0, .slice (some ⟨w.heap.size, 0, none⟩) m m, .slice none 0 0] : Array Value).all (·.oneCell') = true) := by show _ = true; simp [Value.oneCell']
    go_upto_region 4 with (first
      | (at_make; refine make_rows rfl (.tmp 23) (.tmp 23) 60 rfl elem_due DT.vs dZ DT.len (by decide) zero_due m _ rfl rfl HM.out hm64 (by decide) ?_; intro y1 ho1 hb1)
      | (refine wpList_store_row rfl 63 (.tmp 3) (.tmp 25) rfl y1.heap.size #[.int .i64 0, .int .i64 0, .int .i64 0, .slice (some ⟨w.heap.size, 0, none⟩) m m, .slice none 0 0] rfl rfl 63 #[.int .i64 0, .int .i64 0, .int .i64 0, .slice none 0 0, .slice none 0 0] (heap_alloc_new _ _) HSZ1.out HSE1.out HON1.out ?_)
      | fail)
    have hbn : Below y1.heap.size y1 (y1.alloc (.cells #[.int .i64 0, .int .i64 0, .int .i64 0, .slice none 0 0, .slice none 0 0] 63)) := (Below.refl _ _).alloc (Nat.le_refl _) _
    have hbs : Below y1.heap.size y1 ((y1.alloc (.cells #[.int .i64 0, .int .i64 0, .int .i64 0, .slice none 0 0, .slice none 0 0] 63)).setRow y1.heap.size #[.int .i64 0, .int .i64 0, .int .i64 0, .slice (some ⟨w.heap.size, 0, none⟩) m m, .slice none 0 0]) := hbn.trans (setRow_below (Nat.le_refl _) _)
    have hx1 : HT ((y1.alloc (.cells #[.int .i64 0, .int .i64 0, .int .i64 0, .slice none 0 0, .slice none 0 0] 63)).setRow y1.heap.size #[.int .i64 0, .int .i64 0, .int .i64 0, .slice (some ⟨w.heap.size, 0, none⟩) m m, .slice none 0 0]) y1.heap.size 63 [.int .i64 0, .int .i64 0, .int .i64 0, .slice (some ⟨w.heap.size, 0, none⟩) m m, .slice none 0 0] := setRow_heap _ _ _ _ _ _ (heap_alloc_new _ _)
    have ho1 := ho1.below hbs
    have hbt1 := (hb1.trans (hbs.mono hb1.size))
    obtain ⟨W1, hW1⟩ : ∃ x, x = ((y1.alloc (.cells #[.int .i64 0, .int .i64 0, .int .i64 0, .slice none 0 0, .slice none 0 0] 63)).setRow y1.heap.size #[.int .i64 0, .int .i64 0, .int .i64 0, .slice (some ⟨w.heap.size, 0, none⟩) m m, .slice none 0 0]) := ⟨_, rfl⟩
    rw [← hW1] at hbt1 ho1 hx1 ⊢
    clear hW1
    have HSZ2 : Hid ((Tryz.prog.info? 41).map (·.size) = some (#[.int .i64 0, .int .i64 0, .int .i64 0, .slice none 0 0, .slice none 0 0, .slice none 0 0, .int .i64 0, .slice none 0 0, .slice (some ⟨W1.heap.size, 0, none⟩) m m, .int .i64 0, .slice none 0 0, .slice none 0 0, .slice none 0 0, .slice none 0 0, .slice none 0 0] : Array Value).size) := by show _ = _; rw [stSz]; rfl
    have HSE2 : Hid ((#[.int .i64 0, .int .i64 0, .int .i64 0, .slice none 0 0, .slice none 0 0, .slice none 0 0, .int .i64 0, .slice none 0 0, .slice none 0 0, .int .i64 0, .slice none 0 0, .slice none 0 0, .slice none 0 0, .slice none 0 0, .slice none 0 0] : Array Value).size = (#[.int .i64 0, .int .i64 0, .int .i64 0, .slice none 0 0, .slice none 0 0, .slice none 0 0, .int .i64 0, .slice none 0 0, .slice (some ⟨W1.heap.size, 0, none⟩) m m, .int .i64 0, .slice none 0 0, .slice none 0 0, .slice none 0 0, .slice none 0 0, .slice none 0 0] : Array Value).size) := by show _ = _; rfl
    have HON2 : Hid ((#[.int .i64 0, .int .i64 0, .int .i64 0, .slice none 0 0, .slice none 0 0, .slice none 0 0, .int .i64 0, .slice none 0 0, .slice (some ⟨W1.heap.size, 0, none⟩) m m, .int .i64 0, .slice none 0 0, .slice none 0 0, .slice none 0 0, .slice none 0 0, .slice none 0 0] : Array Value).all (·.oneCell') = true) := by show _ = true; simp [Value.oneCell']
    go_upto_region 5 with (first
      | (at_make; refine make_rows rfl (.tmp 27) (.tmp 27) 30 rfl elem_pos PoT.vs pZ PoT.len (by decide) zero_pos m _ rfl rfl HM.out hm64 (by decide) ?_; intro y2 ho2 hb2)
      | (refine wpList_store_row rfl 41 (.tmp 4) (.tmp 30) rfl y2.heap.size #[.int .i64 0, .int .i64 0, .int .i64 0, .slice none 0 0, .slice none 0 0, .slice none 0 0, .int .i64 0, .slice none 0 0, .slice (some ⟨W1.heap.size, 0, none⟩) m m, .int .i64 0, .slice none 0 0, .slice none 0 0, .slice none 0 0, .slice none 0 0, .slice none 0 0] rfl rfl 41 #[.int .i64 0, .int .i64 0, .int .i64 0, .slice none 0 0, .slice none 0 0, .slice none 0 0, .int .i64 0, .slice none 0 0, .slice none 0 0, .int .i64 0, .slice none 0 0, .slice none 0 0, .slice none 0 0, .slice none 0 0, .slice none 0 0] (heap_alloc_new _ _) HSZ2.out HSE2.out HON2.out ?_)
      | fail)
    have hbn : Below y2.heap.size y2 (y2.alloc (.cells #[.int .i64 0, .int .i64 0, .int .i64 0, .slice none 0 0, .slice none 0 0, .slice none 0 0, .int .i64 0, .slice none 0 0, .slice none 0 0, .int .i64 0, .slice none 0 0, .slice none 0 0, .slice none 0 0, .slice none 0 0, .slice none 0 0] 41)) := (Below.refl _ _).alloc (Nat.le_refl _) _
    have hbs : Below y2.heap.size y2 ((y2.alloc (.cells #[.int .i64 0, .int .i64 0, .int .i64 0, .slice none 0 0, .slice none 0 0, .slice none 0 0, .int .i64 0, .slice none 0 0, .slice none 0 0, .int .i64 0, .slice none 0 0, .slice none 0 0, .slice none 0 0, .slice none 0 0, .slice none 0 0] 41)).setRow y2.heap.size #[.int .i64 0, .int .i64 0, .int .i64 0, .slice none 0 0, .slice none 0 0, .slice none 0 0, .int .i64 0, .slice none 0 0, .slice (some ⟨W1.heap.size, 0, none⟩) m m, .int .i64 0, .slice none 0 0, .slice none 0 0, .slice none 0 0, .slice none 0 0, .slice none 0 0]) := hbn.trans (setRow_below (Nat.le_refl _) _)
    have hx2 : HT ((y2.alloc (.cells #[.int .i64 0, .int .i64 0, .int .i64 0, .slice none 0 0, .slice none 0 0, .slice none 0 0, .int .i64 0, .slice none 0 0, .slice none 0 0, .int .i64 0, .slice none 0 0, .slice none 0 0, .slice none 0 0, .slice none 0 0, .slice none 0 0] 41)).setRow y2.heap.size #[.int .i64 0, .int .i64 0, .int .i64 0, .slice none 0 0, .slice none 0 0, .slice none 0 0, .int .i64 0, .slice none 0 0, .slice (some ⟨W1.heap.size, 0, none⟩) m m, .int .i64 0, .slice none 0 0, .slice none 0 0, .slice none 0 0, .slice none 0 0, .slice none 0 0]) y2.heap.size 41 [.int .i64 0, .int .i64 0, .int .i64 0, .slice none 0 0, .slice none 0 0, .slice none 0 0, .int .i64 0, .slice none 0 0, .slice (some ⟨W1.heap.size, 0, none⟩) m m, .int .i64 0, .slice none 0 0, .slice none 0 0, .slice none 0 0, .slice none 0 0, .slice none 0 0] := setRow_heap _ _ _ _ _ _ (heap_alloc_new _ _)
    have ho2 := ho2.below hbs
    have hbt2 := (hb2.trans (hbs.mono hb2.size))
    obtain ⟨W2, hW2⟩ : ∃ x, x = ((y2.alloc (.cells #[.int .i64 0, .int .i64 0, .int .i64 0, .slice none 0 0, .slice none 0 0, .slice none 0 0, .int .i64 0, .slice none 0 0, .slice none 0 0, .int .i64 0, .slice none 0 0, .slice none 0 0, .slice none 0 0, .slice none 0 0, .slice none 0 0] 41)).setRow y2.heap.size #[.int .i64 0, .int .i64 0, .int .i64 0, .slice none 0 0, .slice none 0 0, .slice none 0 0, .int .i64 0, .slice none 0 0, .slice (some ⟨W1.heap.size, 0, none⟩) m m, .int .i64 0, .slice none 0 0, .slice none 0 0, .slice none 0 0, .slice none 0 0, .slice none 0 0]) := ⟨_, rfl⟩
    rw [← hW2] at hbt2 ho2 hx2 ⊢
    clear hW2
    have HSZ3 : Hid ((Tryz.prog.info? 63).map (·.size) = some (#[.int .i64 0, .int .i64 0, .int .i64 0, .slice none 0 0, .slice (some ⟨W2.heap.size, 0, none⟩) m m] : Array Value).size) := by show _ = _; rw [repSz]; rfl
    have HSE3 : Hid ((#[.int .i64 0, .int .i64 0, .int .i64 0, .slice none 0 0, .slice none 0 0] : Array Value).size = (#[.int .i64 0, .int .i64 0, .int .i64 0, .slice none 0 0, .slice (some ⟨W2.heap.size, 0, none⟩) m m] : Array Value).size) := by show _ = _; rfl
    have HON3 : Hid ((#[.int .i64 0, .int .i64 0, .int .i64 0, .slice none 0 0, .slice (some ⟨W2.heap.size, 0, none⟩) m m] : Array Value).all (·.oneCell') = true) := by show _ = true; simp [Value.oneCell']
    go_upto_region 6 with (first
      | (at_make; refine make_rows rfl (.tmp 32) (.tmp 32) 61 rfl elem_fall FT.vs fZ FT.len (by decide) zero_fall m _ rfl rfl HM.out hm64 (by decide) ?_; intro y3 ho3 hb3)
      | (refine wpList_store_row rfl 63 (.tmp 5) (.tmp 34) rfl y3.heap.size #[.int .i64 0, .int .i64 0, .int .i64 0, .slice none 0 0, .slice (some ⟨W2.heap.size, 0, none⟩) m m] rfl rfl 63 #[.int .i64 0, .int .i64 0, .int .i64 0, .slice none 0 0, .slice none 0 0] (heap_alloc_new _ _) HSZ3.out HSE3.out HON3.out ?_)
      | fail)
    have hbn : Below y3.heap.size y3 (y3.alloc (.cells #[.int .i64 0, .int .i64 0, .int .i64 0, .slice none 0 0, .slice none 0 0] 63)) := (Below.refl _ _).alloc (Nat.le_refl _) _
    have hbs : Below y3.heap.size y3 ((y3.alloc (.cells #[.int .i64 0, .int .i64 0, .int .i64 0, .slice none 0 0, .slice none 0 0] 63)).setRow y3.heap.size #[.int .i64 0, .int .i64 0, .int .i64 0, .slice none 0 0, .slice (some ⟨W2.heap.size, 0, none⟩) m m]) := hbn.trans (setRow_below (Nat.le_refl _) _)
    have hx3 : HT ((y3.alloc (.cells #[.int .i64 0, .int .i64 0, .int .i64 0, .slice none 0 0, .slice none 0 0] 63)).setRow y3.heap.size #[.int .i64 0, .int .i64 0, .int .i64 0, .slice none 0 0, .slice (some ⟨W2.heap.size, 0, none⟩) m m]) y3.heap.size 63 [.int .i64 0, .int .i64 0, .int .i64 0, .slice none 0 0, .slice (some ⟨W2.heap.size, 0, none⟩) m m] := setRow_heap _ _ _ _ _ _ (heap_alloc_new _ _)
    have ho3 := ho3.below hbs
    have hbt3 := (hb3.trans (hbs.mono hb3.size))
    obtain ⟨W3, hW3⟩ : ∃ x, x = ((y3.alloc (.cells #[.int .i64 0, .int .i64 0, .int .i64 0, .slice none 0 0, .slice none 0 0] 63)).setRow y3.heap.size #[.int .i64 0, .int .i64 0, .int .i64 0, .slice none 0 0, .slice (some ⟨W2.heap.size, 0, none⟩) m m]) := ⟨_, rfl⟩
    rw [← hW3] at hbt3 ho3 hx3 ⊢
    clear hW3
    have h13 : Below W1.heap.size W1 W3 := hbt2.trans (hbt3.mono hbt2.size)
    have h03 : Below w.heap.size w W3 := hbt1.trans (h13.mono hbt1.size)
    have X1 := Lib.hid (hx1.below h13)
    have X2 := Lib.hid (hx2.below hbt3)
    have X3 := Lib.hid hx3
    have D1 := Lib.hid (ho1.rs.mono h13)
    have P2 := Lib.hid (ho2.rs.mono hbt3)
    have F3 := Lib.hid ho3.rs
    have HB0 := Lib.hid h03
    have HB3 : Hid (Below W3.heap.size W3 W3) := Below.refl _ _
    clear hx1 hx2 hx3 ho1 ho2 ho3 hb1 hb2 hb3 hbt1 hbt2 hbt3 h13 h03 hbn hbs HSE1 HON1 HSE2 HON2 HSE3 HON3
    have HST : Hid (∀ x, Below W3.heap.size W3 x → StC x none 0 0 none 0 0 none 0 0 none 0 0 (some ⟨W1.heap.size, 0, none⟩) m m none 0 0 none 0 0 none 0 0 none 0 0 none 0 0 [] (sZ m)) := fun x hb => ⟨Rs.nil MbT.len x, Rs.nil InT.len x, Rs.nil AsT.len x, Rs.nil TrT.len x, P2.out.mono hb, Rs.nil BaT.len x, Rs.nil PlT.len x, Rs.nil CaT.len x, Rs.nil BiT.len x, Rs.nil SV.len x, rfl, fun i h => by simp at h⟩
    have rp := Reply_any W3 0 0 0 _ _ (List.replicate m dZ) [] (by simp) (D1.out.mono HB3.out) (Rs.nil FT.len W3) HKD.out (fun x hx => by cases hx)
    unfold BytesPost at rp
    rw [HE1.out.1, HE1.out.2] at rp
    have HG : Hid (W3.heap[y1.heap.size]? = some (.cells #[.int .i64 0, .int .i64 0, .int .i64 0, .slice (some ⟨w.heap.size, 0, none⟩) m m, .slice none 0 0] 63 (0, 0))) := X1.out.below HB3.out
    go_wp2_with (first
      | (refine wpList_load_row rfl 63 (.tmp 3) rfl y1.heap.size rfl 63 #[.int .i64 0, .int .i64 0, .int .i64 0, .slice (some ⟨w.heap.size, 0, none⟩) m m, .slice none 0 0] (0, 0) _ HG.out Tryz.underlying63 rfl HSZ1.out ?_)
      | fail)
    refine rp.mono ?_
    clear rp HG
    rintro e w4 ⟨p1, n1, d1, rfl, ob1, hb⟩
    have HB4 := Lib.hid (bgo HB3.out hb HB3.out.size)
    have HO1 := Lib.hid ob1
    have BS1_4 := Lib.hid ob1.bs
    clear hb ob1
    have st := State_any w4 none 0 0 none 0 0 none 0 0 none 0 0 (some ⟨W1.heap.size, 0, none⟩) m m none 0 0 none 0 0 none 0 0 none 0 0 none 0 0 [] (sZ m) (HST.out _ HB4.out) (sZ_ok m) (by simp [sZ, encG])
    unfold BytesPost at st
    rw [HE2.out.1, HE2.out.2] at st
    have HG : Hid (w4.heap[y2.heap.size]? = some (.cells #[.int .i64 0, .int .i64 0, .int .i64 0, .slice none 0 0, .slice none 0 0, .slice none 0 0, .int .i64 0, .slice none 0 0, .slice (some ⟨W1.heap.size, 0, none⟩) m m, .int .i64 0, .slice none 0 0, .slice none 0 0, .slice none 0 0, .slice none 0 0, .slice none 0 0] 41 (0, 0))) := X2.out.below HB4.out
    go_wp2_with (first
      | (refine wpList_load_row rfl 41 (.tmp 4) rfl y2.heap.size rfl 41 #[.int .i64 0, .int .i64 0, .int .i64 0, .slice none 0 0, .slice none 0 0, .slice none 0 0, .int .i64 0, .slice none 0 0, .slice (some ⟨W1.heap.size, 0, none⟩) m m, .int .i64 0, .slice none 0 0, .slice none 0 0, .slice none 0 0, .slice none 0 0, .slice none 0 0] (0, 0) _ HG.out Tryz.underlying41 rfl HSZ2.out ?_)
      | fail)
    refine st.mono ?_
    clear st HG
    rintro e w5 ⟨p2, n2, d2, rfl, ob2, hb⟩
    have HB5 := Lib.hid (bgo HB4.out hb HB4.out.size)
    have HO2 := Lib.hid ob2
    have BS2_5 := Lib.hid ob2.bs
    have BS1_5 := Lib.hid (BS1_4.out.mono hb)
    clear hb ob2
    have rq := Reply_any w5 0 0 0 _ _ [] (List.replicate m fZ) (by simp) (Rs.nil DT.len w5) (F3.out.mono HB5.out) (fun x hx => by cases hx) HKF.out
    unfold BytesPost at rq
    rw [HE3.out.1, HE3.out.2] at rq
    have HG : Hid (w5.heap[y3.heap.size]? = some (.cells #[.int .i64 0, .int .i64 0, .int .i64 0, .slice none 0 0, .slice (some ⟨W2.heap.size, 0, none⟩) m m] 63 (0, 0))) := X3.out.below HB5.out
    go_wp2_with (first
      | (refine wpList_load_row rfl 63 (.tmp 5) rfl y3.heap.size rfl 63 #[.int .i64 0, .int .i64 0, .int .i64 0, .slice none 0 0, .slice (some ⟨W2.heap.size, 0, none⟩) m m] (0, 0) _ HG.out Tryz.underlying63 rfl HSZ3.out ?_)
      | fail)
    refine rq.mono ?_
    clear rq HG
    rintro e w6 ⟨p3, n3, d3, rfl, ob3, hb⟩
    have HB6 := Lib.hid (bgo HB5.out hb HB5.out.size)
    have HO3 := Lib.hid ob3
    have BS3_6 := Lib.hid ob3.bs
    have BS1_6 := Lib.hid (BS1_5.out.mono hb)
    have BS2_6 := Lib.hid (BS2_5.out.mono hb)
    clear hb ob3
    have hrd : readRp (encRep 0 0 0 (List.replicate m dZ) []) = (⟨0, 0, 0, List.replicate m dZ, []⟩, 0) := readRp_enc ⟨0, 0, 0, List.replicate m dZ, []⟩ HW1.out ⟨by intro x hx; simp at hx; omega, HKD.out, fun x hx => by cases hx⟩ HL1.out
    have hl1 := HL1.out
    have rr := ReadReply_any w6 _ _ BS1_6.out (by omega)
    unfold readRpPost at rr
    rw [hrd] at rr
    clear hrd hl1
    clear HE1
    go_wp2_with fail
    refine rr.mono ?_
    clear rr
    rintro e w7 ⟨val, rfl, hv, hb⟩
    obtain ⟨u1, un1, uc1, u2, un2, uc2, rfl, o1, o2⟩ := hv
    have HB7 := Lib.hid (bgo HB6.out hb HB6.out.size)
    have BS2_7 := Lib.hid (BS2_6.out.mono hb)
    clear hb
    have HSZ4 : Hid ((Tryz.prog.info? 63).map (·.size) = some (#[.int .i64 0, .int .i64 0, .int .i64 0, .slice u1 un1 uc1, .slice u2 un2 uc2] : Array Value).size) := by show _ = _; rw [repSz]; rfl
    have HSE4 : Hid ((#[.int .i64 0, .int .i64 0, .int .i64 0, .slice none 0 0, .slice none 0 0] : Array Value).size = (#[.int .i64 0, .int .i64 0, .int .i64 0, .slice u1 un1 uc1, .slice u2 un2 uc2] : Array Value).size) := by show _ = _; rfl
    have HON4 : Hid ((#[.int .i64 0, .int .i64 0, .int .i64 0, .slice u1 un1 uc1, .slice u2 un2 uc2] : Array Value).all (·.oneCell') = true) := by show _ = true; simp [Value.oneCell']
    go_upto_region 12 with (first
      | (refine wpList_store_row rfl 63 (.tmp 12) (.tmp 76) rfl w7.heap.size #[.int .i64 0, .int .i64 0, .int .i64 0, .slice u1 un1 uc1, .slice u2 un2 uc2] rfl rfl 63 #[.int .i64 0, .int .i64 0, .int .i64 0, .slice none 0 0, .slice none 0 0] (heap_alloc_new _ _) HSZ4.out HSE4.out HON4.out ?_)
      | fail)
    have hbn : Below w7.heap.size w7 (w7.alloc (.cells #[.int .i64 0, .int .i64 0, .int .i64 0, .slice none 0 0, .slice none 0 0] 63)) := (Below.refl _ _).alloc (Nat.le_refl _) _
    have hbs : Below w7.heap.size w7 ((w7.alloc (.cells #[.int .i64 0, .int .i64 0, .int .i64 0, .slice none 0 0, .slice none 0 0] 63)).setRow w7.heap.size #[.int .i64 0, .int .i64 0, .int .i64 0, .slice u1 un1 uc1, .slice u2 un2 uc2]) := hbn.trans (setRow_below (Nat.le_refl _) _)
    have hx4 : HT ((w7.alloc (.cells #[.int .i64 0, .int .i64 0, .int .i64 0, .slice none 0 0, .slice none 0 0] 63)).setRow w7.heap.size #[.int .i64 0, .int .i64 0, .int .i64 0, .slice u1 un1 uc1, .slice u2 un2 uc2]) w7.heap.size 63 [.int .i64 0, .int .i64 0, .int .i64 0, .slice u1 un1 uc1, .slice u2 un2 uc2] := setRow_heap _ _ _ _ _ _ (heap_alloc_new _ _)
    have q1 := o1.rs.mono hbs
    have q2 := o2.rs.mono hbs
    have HB8 := Lib.hid (bgo HB7.out hbs HB7.out.size)
    have BS2_8 := Lib.hid (BS2_7.out.mono hbs)
    obtain ⟨w8, hW8⟩ : ∃ x, x = ((w7.alloc (.cells #[.int .i64 0, .int .i64 0, .int .i64 0, .slice none 0 0, .slice none 0 0] 63)).setRow w7.heap.size #[.int .i64 0, .int .i64 0, .int .i64 0, .slice u1 un1 uc1, .slice u2 un2 uc2]) := ⟨_, rfl⟩
    rw [← hW8] at hx4 q1 q2 HB8 BS2_8 ⊢
    have X4 := Lib.hid hx4
    have Q1 := Lib.hid q1
    have Q2 := Lib.hid q2
    clear hW8 hbn hbs hx4 q1 q2 o1 o2 HSE4 HON4
    have hrd : readSt (sZ m).bytes = (sZ m, 0) := readSt_enc (sZ m) HW2.out (sZ_ok m) HL2.out
    have hl2 := HL2.out
    have rs := ReadState_any w8 _ _ BS2_8.out (by omega)
    unfold readStPost at rs
    rw [hrd] at rs
    clear hrd hl2
    go_wp2_with fail
    refine rs.mono ?_
    clear rs
    rintro e w9 ⟨val, rfl, hv, hb⟩
    obtain ⟨b1, m1, d1, b2, m2, d2, b3, m3, d3, b4, m4, d4, b5, m5, d5, b6, m6, d6, b7, m7, d7, b8, m8, d8, b9, m9, d9, b10, m10, d10, LB, rfl, sc⟩ := StOwn.c hv
    have HB9 := Lib.hid (bgo HB8.out hb HB8.out.size)
    have X4b := Lib.hid (X4.out.below hb)
    have Q1b := Lib.hid (Q1.out.mono hb)
    have Q2b := Lib.hid (Q2.out.mono hb)
    clear hb hv
    have HSZ5 : Hid ((Tryz.prog.info? 41).map (·.size) = some (#[.int .i64 0, .int .i64 0, .int .i64 0, .slice b1 m1 d1, .slice b2 m2 d2, .slice b3 m3 d3, .int .i64 0, .slice b4 m4 d4, .slice b5 m5 d5, .int .i64 0, .slice b6 m6 d6, .slice b7 m7 d7, .slice b8 m8 d8, .slice b9 m9 d9, .slice b10 m10 d10] : Array Value).size) := by show _ = _; rw [stSz]; rfl
    have HSE5 : Hid ((#[.int .i64 0, .int .i64 0, .int .i64 0, .slice none 0 0, .slice none 0 0, .slice none 0 0, .int .i64 0, .slice none 0 0, .slice none 0 0, .int .i64 0, .slice none 0 0, .slice none 0 0, .slice none 0 0, .slice none 0 0, .slice none 0 0] : Array Value).size = (#[.int .i64 0, .int .i64 0, .int .i64 0, .slice b1 m1 d1, .slice b2 m2 d2, .slice b3 m3 d3, .int .i64 0, .slice b4 m4 d4, .slice b5 m5 d5, .int .i64 0, .slice b6 m6 d6, .slice b7 m7 d7, .slice b8 m8 d8, .slice b9 m9 d9, .slice b10 m10 d10] : Array Value).size) := by show _ = _; rfl
    have HON5 : Hid ((#[.int .i64 0, .int .i64 0, .int .i64 0, .slice b1 m1 d1, .slice b2 m2 d2, .slice b3 m3 d3, .int .i64 0, .slice b4 m4 d4, .slice b5 m5 d5, .int .i64 0, .slice b6 m6 d6, .slice b7 m7 d7, .slice b8 m8 d8, .slice b9 m9 d9, .slice b10 m10 d10] : Array Value).all (·.oneCell') = true) := by show _ = true; simp [Value.oneCell']
    go_upto_region 13 with (first
      | (refine wpList_store_row rfl 41 (.tmp 14) (.tmp 81) rfl w9.heap.size #[.int .i64 0, .int .i64 0, .int .i64 0, .slice b1 m1 d1, .slice b2 m2 d2, .slice b3 m3 d3, .int .i64 0, .slice b4 m4 d4, .slice b5 m5 d5, .int .i64 0, .slice b6 m6 d6, .slice b7 m7 d7, .slice b8 m8 d8, .slice b9 m9 d9, .slice b10 m10 d10] rfl rfl 41 #[.int .i64 0, .int .i64 0, .int .i64 0, .slice none 0 0, .slice none 0 0, .slice none 0 0, .int .i64 0, .slice none 0 0, .slice none 0 0, .int .i64 0, .slice none 0 0, .slice none 0 0, .slice none 0 0, .slice none 0 0, .slice none 0 0] (heap_alloc_new _ _) HSZ5.out HSE5.out HON5.out ?_)
      | fail)
    have hbn : Below w9.heap.size w9 (w9.alloc (.cells #[.int .i64 0, .int .i64 0, .int .i64 0, .slice none 0 0, .slice none 0 0, .slice none 0 0, .int .i64 0, .slice none 0 0, .slice none 0 0, .int .i64 0, .slice none 0 0, .slice none 0 0, .slice none 0 0, .slice none 0 0, .slice none 0 0] 41)) := (Below.refl _ _).alloc (Nat.le_refl _) _
    have hbs : Below w9.heap.size w9 ((w9.alloc (.cells #[.int .i64 0, .int .i64 0, .int .i64 0, .slice none 0 0, .slice none 0 0, .slice none 0 0, .int .i64 0, .slice none 0 0, .slice none 0 0, .int .i64 0, .slice none 0 0, .slice none 0 0, .slice none 0 0, .slice none 0 0, .slice none 0 0] 41)).setRow w9.heap.size #[.int .i64 0, .int .i64 0, .int .i64 0, .slice b1 m1 d1, .slice b2 m2 d2, .slice b3 m3 d3, .int .i64 0, .slice b4 m4 d4, .slice b5 m5 d5, .int .i64 0, .slice b6 m6 d6, .slice b7 m7 d7, .slice b8 m8 d8, .slice b9 m9 d9, .slice b10 m10 d10]) := hbn.trans (setRow_below (Nat.le_refl _) _)
    have hx5 : HT ((w9.alloc (.cells #[.int .i64 0, .int .i64 0, .int .i64 0, .slice none 0 0, .slice none 0 0, .slice none 0 0, .int .i64 0, .slice none 0 0, .slice none 0 0, .int .i64 0, .slice none 0 0, .slice none 0 0, .slice none 0 0, .slice none 0 0, .slice none 0 0] 41)).setRow w9.heap.size #[.int .i64 0, .int .i64 0, .int .i64 0, .slice b1 m1 d1, .slice b2 m2 d2, .slice b3 m3 d3, .int .i64 0, .slice b4 m4 d4, .slice b5 m5 d5, .int .i64 0, .slice b6 m6 d6, .slice b7 m7 d7, .slice b8 m8 d8, .slice b9 m9 d9, .slice b10 m10 d10]) w9.heap.size 41 [.int .i64 0, .int .i64 0, .int .i64 0, .slice b1 m1 d1, .slice b2 m2 d2, .slice b3 m3 d3, .int .i64 0, .slice b4 m4 d4, .slice b5 m5 d5, .int .i64 0, .slice b6 m6 d6, .slice b7 m7 d7, .slice b8 m8 d8, .slice b9 m9 d9, .slice b10 m10 d10] := setRow_heap _ _ _ _ _ _ (heap_alloc_new _ _)
    have sc1 := sc.mono hbs
    have q1 := Q1b.out.mono hbs
    have q2 := Q2b.out.mono hbs
    have x4 := X4b.out.below hbs
    have HBA := Lib.hid (bgo HB9.out hbs HB9.out.size)
    obtain ⟨wA, hWA⟩ : ∃ x, x = ((w9.alloc (.cells #[.int .i64 0, .int .i64 0, .int .i64 0, .slice none 0 0, .slice none 0 0, .slice none 0 0, .int .i64 0, .slice none 0 0, .slice none 0 0, .int .i64 0, .slice none 0 0, .slice none 0 0, .slice none 0 0, .slice none 0 0, .slice none 0 0] 41)).setRow w9.heap.size #[.int .i64 0, .int .i64 0, .int .i64 0, .slice b1 m1 d1, .slice b2 m2 d2, .slice b3 m3 d3, .int .i64 0, .slice b4 m4 d4, .slice b5 m5 d5, .int .i64 0, .slice b6 m6 d6, .slice b7 m7 d7, .slice b8 m8 d8, .slice b9 m9 d9, .slice b10 m10 d10]) := ⟨_, rfl⟩
    rw [← hWA] at hx5 q1 q2 x4 sc1 HBA ⊢
    have X5 := Lib.hid hx5
    have SC := Lib.hid sc1
    have kr := KReply_any wA 0 0 0 0 0 0 _ _ _ _ (List.replicate m dZ) (List.replicate m dZ) [] [] q1 q2 (D1.out.mono HBA.out) (Rs.nil FT.len wA)
    rw [decide_eq_true ⟨rfl, rfl, rfl, rfl, rfl⟩] at kr
    have HG1 : Hid (wA.heap[w7.heap.size]? = some (.cells #[.int .i64 0, .int .i64 0, .int .i64 0, .slice u1 un1 uc1, .slice u2 un2 uc2] 63 (0, 0))) := x4
    have HG2 : Hid (wA.heap[y1.heap.size]? = some (.cells #[.int .i64 0, .int .i64 0, .int .i64 0, .slice (some ⟨w.heap.size, 0, none⟩) m m, .slice none 0 0] 63 (0, 0))) := X1.out.below HBA.out
    clear hWA hbn hbs hx5 q1 q2 x4 sc1 sc HSE5 HON5
    go_wp2_with (first
      | (refine wpList_load_row_w (by first | rfl | simp [Region.wanted, yielded]) 63 (.tmp 12) rfl w7.heap.size rfl 63 #[.int .i64 0, .int .i64 0, .int .i64 0, .slice u1 un1 uc1, .slice u2 un2 uc2] (0, 0) _ HG1.out Tryz.underlying63 rfl HSZ4.out ?_)
      | (refine wpList_load_row_w (by first | rfl | simp [Region.wanted, yielded]) 63 (.tmp 3) rfl y1.heap.size rfl 63 #[.int .i64 0, .int .i64 0, .int .i64 0, .slice (some ⟨w.heap.size, 0, none⟩) m m, .slice none 0 0] (0, 0) _ HG2.out Tryz.underlying63 rfl HSZ1.out ?_)
      | fail)
    refine kr.mono ?_
    clear kr HG1 HG2
    rintro e wB ⟨rfl, hb⟩
    have HBB := Lib.hid (bgo HBA.out hb HBA.out.size)
    have ks := KState_same wB b1 m1 d1 b2 m2 d2 b3 m3 d3 b4 m4 d4 b5 m5 d5 b6 m6 d6 b7 m7 d7 b8 m8 d8 b9 m9 d9 b10 m10 d10 LB none 0 0 none 0 0 none 0 0 none 0 0 (some ⟨W1.heap.size, 0, none⟩) m m none 0 0 none 0 0 none 0 0 none 0 0 none 0 0 [] (sZ m) (SC.out.mono hb) (HST.out _ HBB.out)
    have HG1 : Hid (wB.heap[w9.heap.size]? = some (.cells #[.int .i64 0, .int .i64 0, .int .i64 0, .slice b1 m1 d1, .slice b2 m2 d2, .slice b3 m3 d3, .int .i64 0, .slice b4 m4 d4, .slice b5 m5 d5, .int .i64 0, .slice b6 m6 d6, .slice b7 m7 d7, .slice b8 m8 d8, .slice b9 m9 d9, .slice b10 m10 d10] 41 (0, 0))) := X5.out.below hb
    have HG2 : Hid (wB.heap[y2.heap.size]? = some (.cells #[.int .i64 0, .int .i64 0, .int .i64 0, .slice none 0 0, .slice none 0 0, .slice none 0 0, .int .i64 0, .slice none 0 0, .slice (some ⟨W1.heap.size, 0, none⟩) m m, .int .i64 0, .slice none 0 0, .slice none 0 0, .slice none 0 0, .slice none 0 0, .slice none 0 0] 41 (0, 0))) := X2.out.below HBB.out
    clear hb
    go_wp2_with (first
      | (refine wpList_load_row_w (by first | rfl | simp [Region.wanted, yielded]) 41 (.tmp 14) rfl w9.heap.size rfl 41 #[.int .i64 0, .int .i64 0, .int .i64 0, .slice b1 m1 d1, .slice b2 m2 d2, .slice b3 m3 d3, .int .i64 0, .slice b4 m4 d4, .slice b5 m5 d5, .int .i64 0, .slice b6 m6 d6, .slice b7 m7 d7, .slice b8 m8 d8, .slice b9 m9 d9, .slice b10 m10 d10] (0, 0) _ HG1.out Tryz.underlying41 rfl HSZ5.out ?_)
      | (refine wpList_load_row_w (by first | rfl | simp [Region.wanted, yielded]) 41 (.tmp 4) rfl y2.heap.size rfl 41 #[.int .i64 0, .int .i64 0, .int .i64 0, .slice none 0 0, .slice none 0 0, .slice none 0 0, .int .i64 0, .slice none 0 0, .slice (some ⟨W1.heap.size, 0, none⟩) m m, .int .i64 0, .slice none 0 0, .slice none 0 0, .slice none 0 0, .slice none 0 0, .slice none 0 0] (0, 0) _ HG2.out Tryz.underlying41 rfl HSZ2.out ?_)
      | fail)
    refine ks.mono ?_
    clear ks HG1 HG2
    rintro e wC ⟨rfl, hb⟩
    have HBC := Lib.hid (bgo HBB.out hb HBB.out.size)
    have wk := wakes_any wC
    clear hb
    go_wp2_with fail
    refine wk.mono ?_
    clear wk
    rintro e wz ⟨rfl, hb⟩
    go_wp2_with fail
    go_ret
    exact ⟨rfl, bgo (bgo HB0.out HBC.out HB0.out.size) hb (bgo HB0.out HBC.out HB0.out.size).size⟩
end Cam
