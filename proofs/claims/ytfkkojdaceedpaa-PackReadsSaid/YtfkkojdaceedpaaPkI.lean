import Derived.Test.YtfkkojdaceedpaaPkT
/- cambistlaw04: items; write. -/
namespace Cam
open Go Go.RowKit Go.Proofs

structure Item where
  kind : Int
  l : List Int
  is : Bool
  t : List UInt8

def ck (k : Int) : Int := (IntKind.u64.wrap k).tmod 3
theorem ck_cases (k : Int) : ck k = 0 ∨ ck k = 1 ∨ ck k = 2 := by
  unfold ck
  rw [IntKind.wrap_u64, Int.tmod_eq_emod_of_nonneg (by omega)]
  omega
/-- is its text too long? -/
def itLong (x : Item) : Bool := decide (ck x.kind = 2 ∧ 65536 < x.t.length)
/-- what is written of it -/
def itB (x : Item) : List UInt8 := if ck x.kind = 0 then encIs x.l else if ck x.kind = 1 then markB x.is else if 65536 < x.t.length then [] else textB x.t
def itsB (l : List Item) : List UInt8 := (l.map itB).flatten
def itsLong (l : List Item) : Bool := l.any itLong
theorem itsB_snoc (l : List Item) (x : Item) : itsB (l ++ [x]) = itsB l ++ itB x := by simp [itsB]
theorem itsLong_snoc (l : List Item) (x : Item) : itsLong (l ++ [x]) = (itsLong l || itLong x) := by simp [itsLong]

/-- the cells of items, their slices' values beside them -/
def itcells : List (Item × Value × Value) → List Value
  | [] => []
  | e :: l => .int .i64 e.1.kind :: e.2.1 :: .bool e.1.is :: e.2.2 :: itcells l
theorem itcells_length (l : List (Item × Value × Value)) : (itcells l).length = l.length * 4 := by
  induction l with
  | nil => rfl
  | cons x l ih => simp [itcells, ih]; omega
theorem itcells_at (l : List (Item × Value × Value)) (i : Nat) (h : i < l.length) : (itcells l)[i * 4]? = some (.int .i64 l[i].1.kind) ∧ (itcells l)[i * 4 + 1]? = some l[i].2.1 ∧ (itcells l)[i * 4 + 2]? = some (.bool l[i].1.is) ∧ (itcells l)[i * 4 + 3]? = some l[i].2.2 := by
  induction l generalizing i with
  | nil => cases h
  | cons x l ih =>
    cases i with
    | zero => exact ⟨rfl, rfl, rfl, rfl⟩
    | succ i =>
      have := ih i (by simpa using h)
      simpa [itcells, Nat.succ_mul] using this

/-- a slice of items -/
def Its (w : World) (v : Value) (its : List Item) : Prop := ∃ es : List (Item × Value × Value), es.map (·.1) = its ∧ Sl w v 4 es.length (itcells es) ∧ ∀ e ∈ es, Is w e.2.1 e.1.l ∧ Bs w e.2.2 e.1.t
theorem Its.shape {w : World} {v : Value} {l : List Item} (h : Its w v l) : ∃ a cap, v = .slice a l.length cap ∧ l.length ≤ cap ∧ cap ≤ 9223372036854775807 := by
  obtain ⟨es, rfl, hs, _⟩ := h
  have := hs.shape
  simpa using this
theorem Its.mono {w w' : World} {v : Value} {l : List Item} (h : Its w v l) (hb : Below w.heap.size w w') : Its w' v l := by
  obtain ⟨es, h1, h2, h3⟩ := h
  exact ⟨es, h1, h2.mono hb, fun e he => ⟨(h3 e he).1.mono hb, (h3 e he).2.mono hb⟩⟩
theorem Its.at {w : World} {a : Option Addr} {len cap : Nat} {l : List Item} (h : Its w (.slice a len cap) l) (hp : 0 < l.length) :
    ∃ b off, a = some ⟨b, off, none⟩ ∧ b < w.heap.size ∧ ∀ i (hi : i < l.length), ∃ vl vt, (w.cell? ⟨b, off + i * 4, none⟩ = some (.int .i64 l[i].kind) ∧ w.cell? ⟨b, off + i * 4 + 1, none⟩ = some vl ∧ w.cell? ⟨b, off + i * 4 + 2, none⟩ = some (.bool l[i].is) ∧ w.cell? ⟨b, off + i * 4 + 3, none⟩ = some vt) ∧ Is w vl l[i].l ∧ Bs w vt l[i].t := by
  obtain ⟨es, rfl, hs, he⟩ := h
  simp only [List.length_map] at hp
  obtain ⟨b, off, h1, h2, h3⟩ := Sl.at hs (by rw [itcells_length]; omega)
  refine ⟨b, off, h1, h2, fun i hi => ?_⟩
  simp only [List.length_map] at hi
  have hx := itcells_at es i hi
  have hc : ∀ j (u : Value), j < 4 → (itcells es)[i * 4 + j]? = some u → w.cell? ⟨b, off + i * 4 + j, none⟩ = some u := by
    intro j u hj hu
    have h4 := h3 (i * 4 + j) (by rw [itcells_length]; omega)
    rw [(List.getElem?_eq_some_iff.1 hu).2] at h4
    rw [Nat.add_assoc]
    exact h4
  have hm := he es[i] (List.getElem_mem hi)
  simp only [List.getElem_map]
  exact ⟨es[i].2.1, es[i].2.2, ⟨by simpa using hc 0 _ (by omega) hx.1, hc 1 _ (by omega) hx.2.1, hc 2 _ (by omega) hx.2.2.1, hc 3 _ (by omega) hx.2.2.2⟩, hm⟩

theorem PWPost.of_box {w w' : World} {g : Nat} {v : Value} {l : List UInt8} {lg : Bool} (o : Obj) (h : PWPost (w.alloc o) g v l lg w') : PWPost w g v l lg w' := by
  obtain ⟨v', h1, h2, h3⟩ := h
  refine ⟨v', h1, ((Kept.refl _ w).alloc o).trans h2 (fun _ _ h => h), fun k hk => ?_⟩
  rcases h3 k hk with e | e
  · exact .inl e
  · simp at e
    exact .inr (by omega)

set_option maxHeartbeats 800000 in
theorem write_any (w : World) (g : Nat) (v : Value) (l : List UInt8) (lg : Bool) (x : Item) (vl vt : Value) (hp : PW w g v l lg) (hl : Is w vl x.l) (ht : Bs w vt x.t)
    (hsl : ∀ w', Kept (fun k => k = g ∨ v.ownBlock = some k) w w' → Is w' vl x.l) (hst : ∀ w', Kept (fun k => k = g ∨ v.ownBlock = some k) w w' → Bs w' vt x.t)
    (hr : ∀ n ∈ x.l, -9223372036854775808 ≤ n ∧ n ≤ 9223372036854775807) (hn : x.l.length ≤ 200) (hlen : l.length ≤ 17592186044416) :
    Calls Try.prog 11 #[.pointer (some ⟨g, 0, none⟩), .agg #[.int .i64 x.kind, vl, .bool x.is, vt]] w fun e w' => e = .returned (.tuple #[]) ∧ PWPost w g v (l ++ itB x) (lg || itLong x) w' := by
  have hpA := hp.alloc (.cells #[.int .i64 x.kind, vl, .bool x.is, vt] 31)
  have hkA := (Kept.refl (fun k => k = g ∨ v.ownBlock = some k) w).alloc (.cells #[.int .i64 x.kind, vl, .bool x.is, vt] 31)
  obtain ⟨al, cl, rfl, _, _⟩ := hl.shape
  obtain ⟨at_, ct, rfl, _, _⟩ := ht.shape
  rcases ck_cases x.kind with hk | hk | hk
  · have e1 : itB x = encIs x.l := by unfold itB; rw [if_pos hk]
    have e2 : (lg || itLong x) = lg := by simp [itLong, hk]
    have wi := WInt_any _ g v l lg _ x.l hpA (hl.alloc _) (fun w' h => hsl w' (hkA.trans h (fun _ _ h => h))) hr (by omega)
    rw [e1, e2]
    have hk' : (IntKind.u64.wrap x.kind).tmod 3 = 0 := hk
    clear e1 e2 hk
    go_enter Try.func11, Try.ntmps11
    go_wp2_with fail
    refine wi.mono ?_
    rintro e w1 ⟨rfl, hpost⟩
    have Hpost := Lib.hid hpost.of_box
    clear hpost wi
    go_wp2_with fail
    go_end0
    exact ⟨rfl, Hpost.out⟩
  · have e1 : itB x = markB x.is := by unfold itB; rw [if_neg (by omega), if_pos hk]
    have e2 : (lg || itLong x) = lg := by simp [itLong, hk]
    have wi := WMark_any _ g v l lg x.is hpA (by omega)
    rw [e1, e2]
    have hk' : (IntKind.u64.wrap x.kind).tmod 3 = 1 := hk
    clear e1 e2 hk
    go_enter Try.func11, Try.ntmps11
    go_wp2_with fail
    refine wi.mono ?_
    rintro e w1 ⟨rfl, hpost⟩
    have Hpost := Lib.hid hpost.of_box
    clear hpost wi
    go_wp2_with fail
    go_end0
    exact ⟨rfl, Hpost.out⟩
  · by_cases hlong : 65536 < x.t.length
    · have e1 : l ++ itB x = l := by unfold itB; rw [if_neg (by omega), if_neg (by omega), if_pos hlong, List.append_nil]
      have e2 : (lg || itLong x) = true := by simp [itLong, hk, hlong]
      have wi := WText_long _ g v l lg _ x.t hpA (ht.alloc _) hlong
      rw [e1, e2]
      have hk' : (IntKind.u64.wrap x.kind).tmod 3 = 2 := hk
      clear e1 e2 hk
      go_enter Try.func11, Try.ntmps11
      go_wp2_with fail
      refine wi.mono ?_
      rintro e w1 ⟨rfl, hpost⟩
      have Hpost := Lib.hid hpost.of_box
      clear hpost wi
      go_wp2_with fail
      go_end0
      exact ⟨rfl, Hpost.out⟩
    · have e1 : itB x = textB x.t := by unfold itB; rw [if_neg (by omega), if_neg (by omega), if_neg hlong]
      have e2 : (lg || itLong x) = lg := by simp [itLong, hlong]
      have wi := WText_ok _ g v l lg _ x.t hpA (ht.alloc _) (fun w' h => hst w' (hkA.trans h (fun _ _ h => h))) (by omega) (by omega)
      rw [e1, e2]
      have hk' : (IntKind.u64.wrap x.kind).tmod 3 = 2 := hk
      clear e1 e2 hk
      go_enter Try.func11, Try.ntmps11
      go_wp2_with fail
      refine wi.mono ?_
      rintro e w1 ⟨rfl, hpost⟩
      have Hpost := Lib.hid hpost.of_box
      clear hpost wi
      go_wp2_with fail
      go_end0
      exact ⟨rfl, Hpost.out⟩

end Cam
