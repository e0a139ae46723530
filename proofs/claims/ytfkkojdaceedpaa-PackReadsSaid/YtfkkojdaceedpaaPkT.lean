import Derived.Test.YtfkkojdaceedpaaPkM
/- pack.Writer: Text. -/
namespace Cam
open Go Go.RowKit Go.Proofs

def textB (t : List UInt8) : List UInt8 := encI (t.length : Int) ++ t

theorem Kept.heap {S : Nat → Prop} {w w' : World} (h : Kept S w w') {k : Nat} {o : Obj} (ho : w.heap[k]? = some o) (hk : ¬ S k) : w'.heap[k]? = some o := (h.block k (Array.getElem?_eq_some_iff.1 ho).1 hk).trans ho

/-- an append to a writer's bytes that makes nothing first -/
theorem PW.more {w0 wr w' : World} {g : Nat} {v0 v v' : Value} {m m' : List UInt8} {lg : Bool} (h : PW wr g v m lg) (hk : Kept (fun k => k = g ∨ v0.ownBlock = some k) w0 wr)
    (hown : ∀ k, v.ownBlock = some k → v0.ownBlock = some k ∨ w0.heap.size ≤ k) (hg : wr.grownBy w' v.ownBlock) (ho : OwnB 5 w' (g + 1) v' m') (hat : v'.ownBlock = v.ownBlock ∨ v'.ownBlock = some wr.heap.size) :
    (w'.cell? ⟨g, 0, none⟩ = some v ∧ w'.frozen? ⟨g, 0, none⟩ = false) ∧ PW (w'.setCell ⟨g, 0, none⟩ v') g v' m' lg ∧ Kept (fun k => k = g ∨ v0.ownBlock = some k) w0 (w'.setCell ⟨g, 0, none⟩ v') ∧ ∀ k, v'.ownBlock = some k → v0.ownBlock = some k ∨ w0.heap.size ≤ k := by
  obtain ⟨h1, h2, h3, h4⟩ := h.put hg ho hat
  have hsz := hk.size
  refine ⟨h3, h1, hk.trans h2 (fun i hi ht => ?_), fun k hk' => ?_⟩
  · rcases ht with e | e
    · exact .inl e
    · rcases hown i e with e2 | e2
      · exact .inr e2
      · omega
  · rcases h4 k hk' with e | e
    · exact hown k e
    · exact .inr (by omega)

theorem WText_long (w : World) (g : Nat) (v : Value) (l : List UInt8) (lg : Bool) (vt : Value) (t : List UInt8) (hp : PW w g v l lg) (ht : Bs w vt t) (hlong : 65536 < t.length) :
    Calls Try.prog 17 #[.pointer (some ⟨g, 0, none⟩), vt] w fun e w' => e = .returned (.tuple #[]) ∧ PWPost w g v l true w' := by
  obtain ⟨a, c, rfl, hc, hm⟩ := ht.shape
  have ⟨hc0, hc1, hf0, hf1⟩ := hp.cell
  have hlt := hp.lt
  have hpost : PWPost w g v l true (w.setCell ⟨g, 1, none⟩ (.bool true)) := by
    refine ⟨v, ⟨?_, ?_⟩, (Kept.refl _ w).setCell _ _ (.inl rfl), fun k hk => .inl hk⟩
    · rw [heap_setCell_same w g 1 _ _ _ hp.1]
      rfl
    · refine ownsRow_setCell_other hp.2 (a := ⟨g, 1, none⟩) (fun e => ?_) _
      have := hp.row g e
      omega
  have Hpost := Lib.hid hpost
  have hli : (65536 : Int) < (t.length : Int) := by omega
  clear hpost
  go_enter Try.func17, Try.ntmps17
  go_wp2_with fail
  refine bodyPost_ret (v := .tuple #[]) (by simp [results, Try.results17, go_sem]) rfl ?_
  exact ⟨rfl, Hpost.out⟩

set_option maxHeartbeats 800000 in
theorem WText_ok (w : World) (g : Nat) (v : Value) (l : List UInt8) (lg : Bool) (vt : Value) (t : List UInt8) (hp : PW w g v l lg) (ht : Bs w vt t) (hst : ∀ w', Kept (fun k => k = g ∨ v.ownBlock = some k) w w' → Bs w' vt t) (hlong : t.length ≤ 65536) (hlen : l.length ≤ 35184372088832) :
    Calls Try.prog 17 #[.pointer (some ⟨g, 0, none⟩), vt] w fun e w' => e = .returned (.tuple #[]) ∧ PWPost w g v (l ++ textB t) lg w' := by
  obtain ⟨a, c, rfl, hc, hm⟩ := ht.shape
  have ⟨hc0, hc1, hf0, hf1⟩ := hp.cell
  have hlt := hp.lt
  have hd : decide (65536 < (t.length : Int)) = false := by simp; omega
  have hrow := fun k hk => (hp.row k hk).2
  have wi := WInt_any (w.alloc (.cells #[.int .i64 (t.length : Int)] 3)) g v l lg (.slice (some ⟨w.heap.size, 0, none⟩) 1 1) [(t.length : Int)] (hp.alloc _) (Is.lit1 w _ _)
    (fun w' hk => Is.block (l := [(t.length : Int)]) (fr := (0, 0)) (e := 3) (hk.heap (heap_alloc_new w _) (by
      rintro (e | e)
      · omega
      · have := hrow _ e
        omega)) (Nat.le_refl _) (by simp [maxLen])) (by intro n hn; simp at hn; omega) (by simp; omega)
  have eI : encIs [(t.length : Int)] = encI (t.length : Int) := by simp [encIs]
  rw [eI] at wi
  have Hst := Lib.hid hst
  have Hrow := Lib.hid hrow
  clear eI hst hrow
  go_enter Try.func17, Try.ntmps17
  go_wp2_with fail
  refine wi.mono ?_
  rintro e w1 ⟨rfl, v1, hp1, hk1, ho1⟩
  have hk2 : Kept (fun k => k = g ∨ v.ownBlock = some k) w w1 := ((Kept.refl _ w).alloc (.cells #[.int .i64 (t.length : Int)] 3)).trans hk1 (fun _ _ h => h)
  have ho2 : ∀ k, v1.ownBlock = some k → v.ownBlock = some k ∨ w.heap.size ≤ k := fun k hk => by
    rcases ho1 k hk with e | e
    · exact .inl e
    · simp at e
      exact .inr (by omega)
  obtain ⟨a2, n2, c2, hv2, Hn2, _⟩ := OwnB.named hp1.2
  subst hv2
  have ⟨hd0, hd1, he0, he1⟩ := hp1.cell
  have Hk2 := Lib.hid hk2
  have Ho2 := Lib.hid ho2
  have hel := (encI_length (t.length : Int) (by omega)).1
  have hsrc := Hst.out _ hk2
  clear hc0 hc1 hf0 hf1 hk1 ho1 hk2 ho2 wi
  go_wp2_with (first | (at_builtin; refine wpList_append_bytes_at (v := .slice a2 n2 c2) rfl (.tmp 19) (.tmp 20) 25 rfl (m := t) elem_byte rfl rfl hp1.2 hsrc (by simp; omega) (by have := hp1.lt; omega) ?_; intro a' n' c' w' Hn' ho' hg' hat'; obtain ⟨⟨hcell, hfz⟩, hpw3, hk3, hown3⟩ := PW.more hp1 Hk2.out Ho2.out hg' ho' hat'.out))
  go_end0
  exact ⟨rfl, _, by rw [List.append_assoc] at hpw3; exact hpw3, hk3, hown3⟩

end Cam
