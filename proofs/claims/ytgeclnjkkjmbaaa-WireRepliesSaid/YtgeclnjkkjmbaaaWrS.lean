import Derived.Test.YtgeclnjkkjmbaaaWrM
import Derived.Test.YtgeclnjkkjmbaaaMemB
/- pack.Reader: its state, in memory; fail, NewReader, Done. -/
namespace Cam
open Go Go.RowKit Go.Proofs

/-- the bytes that are left, the error that is kept -/
abbrev RS := List UInt8 × Int
def rI (s : RS) : Int × RS := if s.2 ≠ 0 then (0, s) else match vdec 0 1 0 s.1 with | some (z, k) => (zag z, (s.1.drop k, 0)) | none => (0, (s.1, 4))
def rFail (s : RS) (e : Int) : RS := if s.2 = 0 then (s.1, e) else s
def rM (s : RS) : Bool × RS := if s.2 ≠ 0 then (false, s) else match s.1 with | [] => (false, ([], 4)) | c :: l => if 1 < c.toNat then (false, (c :: l, 4)) else (decide (c.toNat = 1), (l, 0))
/-- a text, its length read -/
def rT' (n : Int) (s : RS) : List UInt8 × RS :=
  if s.2 ≠ 0 then ([], s) else if 65536 < n then ([], (s.1, 5)) else if n < 0 ∨ (s.1.length : Int) < n then ([], (s.1, 4)) else (s.1.take n.toNat, (s.1.drop n.toNat, 0))
def rT (s : RS) : List UInt8 × RS := rT' (rI s).1 (rI s).2
def rD (s : RS) : Int := if s.2 = 0 then (if s.1.length = 0 then 0 else 4) else s.2

theorem Sl.kept {S : Nat → Prop} {w w' : World} {v : Value} {size n : Nat} {cs : List Value} (h : Sl w v size n cs) (hk : Kept S w w') (ha : ∀ k, inBlock v k → ¬ S k) : Sl w' v size n cs := by
  obtain ⟨h0, a, c, rfl, h1, h2, h3, h4⟩ := h
  refine ⟨h0, a, c, rfl, h1, h2, h3, fun ad had i u hu => ?_⟩
  have hc := h4 ad had i u hu
  subst had
  have hlt := World.block_lt_of_cell? w _ hc
  have hb : (ad.add i).block = ad.block := by unfold Addr.add; split <;> rfl
  unfold World.cell? at *
  rw [hk.block _ hlt (by rw [hb]; exact ha _ ⟨ad, n, c, rfl, rfl⟩)]
  exact hc
theorem Bs.kept {S : Nat → Prop} {w w' : World} {v : Value} {l : List UInt8} (h : Bs w v l) (hk : Kept S w w') (ha : ∀ k, inBlock v k → ¬ S k) : Bs w' v l := Sl.kept h hk ha

/-- a reader at block g -/
def RD (w : World) (g : Nat) (s : RS) : Prop := ∃ v, w.heap[g]? = some (.cells #[v, .int .i64 s.2] 198 (0, 0)) ∧ Bs w v s.1 ∧ ∀ k, inBlock v k → k < g
theorem RD.lt {w : World} {g : Nat} {s : RS} (h : RD w g s) : g < w.heap.size := by
  obtain ⟨v, h, _⟩ := h
  exact (Array.getElem?_eq_some_iff.1 h).1
theorem RD.below {w w' : World} {g : Nat} {s : RS} (h : RD w g s) (hb : Below w.heap.size w w') : RD w' g s := by
  have hlt := h.lt
  obtain ⟨v, h1, h2, h3⟩ := h
  exact ⟨v, (hb.block g hlt).trans h1, h2.mono hb, h3⟩
theorem RD.belowB {w w' : World} {B g : Nat} {s : RS} (h : RD w g s) (hb : Below B w w') (hB : w.heap.size ≤ B) : RD w' g s := h.below (hb.mono hB)
theorem RD.alloc {w : World} {g : Nat} {s : RS} (h : RD w g s) (o : Obj) : RD (w.alloc o) g s := h.below ((Below.refl _ _).alloc (Nat.le_refl _) o)
theorem RD.kept {S : Nat → Prop} {w w' : World} {g : Nat} {s : RS} (h : RD w g s) (hk : Kept S w w') (hS : ∀ k, k ≤ g → ¬ S k) : RD w' g s := by
  have hlt := h.lt
  obtain ⟨v, h1, h2, h3⟩ := h
  exact ⟨v, (hk.block g hlt (hS g (Nat.le_refl _))).trans h1, h2.kept hk (fun k hi => hS k (Nat.le_of_lt (h3 k hi))), h3⟩
theorem RD.cell {w : World} {g : Nat} {s : RS} (h : RD w g s) : ∃ a c, w.cell? ⟨g, 0, none⟩ = some (.slice a s.1.length c) ∧ w.cell? ⟨g, 1, none⟩ = some (.int .i64 s.2) ∧ w.frozen? ⟨g, 0, none⟩ = false ∧ w.frozen? ⟨g, 1, none⟩ = false ∧ Bs w (.slice a s.1.length c) s.1 ∧ (∀ k, inBlock (.slice a s.1.length c) k → k < g) ∧ s.1.length ≤ c ∧ c ≤ 9223372036854775807 ∧ w.heap[g]? = some (.cells #[.slice a s.1.length c, .int .i64 s.2] 198 (0, 0)) := by
  obtain ⟨v, h1, h2, h3⟩ := h
  obtain ⟨a, c, rfl, h4, h5⟩ := h2.shape
  refine ⟨a, c, ?_, ?_, ?_, ?_, h2, h3, h4, h5, h1⟩
  · unfold World.cell?
    rw [h1]
    rfl
  · unfold World.cell?
    rw [h1]
    rfl
  · unfold World.frozen?
    rw [h1]
    rfl
  · unfold World.frozen?
    rw [h1]
    rfl

/-- a reader's cells, written over -/
theorem RD.setLeft {w : World} {g : Nat} {v v' : Value} {l : List UInt8} {e : Int} (h : w.heap[g]? = some (.cells #[v, .int .i64 e] 198 (0, 0))) (hl : Bs w v' l) (ha : ∀ k, inBlock v' k → k < g) : RD (w.setCell ⟨g, 0, none⟩ v') g (l, e) ∧ Kept (fun k => k = g) w (w.setCell ⟨g, 0, none⟩ v') := by
  have hk : Kept (fun k => k = g) w (w.setCell ⟨g, 0, none⟩ v') := (Kept.refl _ w).setCell _ _ rfl
  refine ⟨⟨v', ?_, hl.kept hk (fun k hi e => ?_), ha⟩, hk⟩
  · rw [heap_setCell_same w g 0 _ _ v' h]
    rfl
  · have := ha k hi
    omega
theorem RD.setBad {w : World} {g : Nat} {v : Value} {l : List UInt8} {e : Int} (e' : Int) (h : w.heap[g]? = some (.cells #[v, .int .i64 e] 198 (0, 0))) (hl : Bs w v l) (ha : ∀ k, inBlock v k → k < g) : RD (w.setCell ⟨g, 1, none⟩ (.int .i64 e')) g (l, e') ∧ Kept (fun k => k = g) w (w.setCell ⟨g, 1, none⟩ (.int .i64 e')) := by
  have hk : Kept (fun k => k = g) w (w.setCell ⟨g, 1, none⟩ (.int .i64 e')) := (Kept.refl _ w).setCell _ _ rfl
  refine ⟨⟨v, ?_, hl.kept hk (fun k hi e => ?_), ha⟩, hk⟩
  · rw [heap_setCell_same w g 1 _ _ _ h]
    rfl
  · have := ha k hi
    omega

theorem fail_any (w : World) (g : Nat) (s : RS) (e : Int) (h : RD w g s) : Calls Try.prog 101 #[.pointer (some ⟨g, 0, none⟩), .int .i64 e] w fun r w' => r = .returned (.tuple #[]) ∧ RD w' g (rFail s e) ∧ Kept (fun k => k = g) w w' := by
  obtain ⟨a, c, hc0, hc1, hf0, hf1, hl, ha, _, _, hh⟩ := h.cell
  by_cases hs : s.2 = 0
  · have hset := RD.setBad e hh hl ha
    have e1 : rFail s e = (s.1, e) := by unfold rFail; rw [if_pos hs]
    rw [e1]
    rw [hs] at hc1
    have HS := Lib.hid hset
    clear hset hs e1 hh
    go_enter Try.func101, Try.ntmps101
    go_wp2_with fail
    go_end0
    exact ⟨rfl, HS.out.1, HS.out.2⟩
  · have e1 : rFail s e = s := by unfold rFail; rw [if_neg hs]
    rw [e1]
    have hd : decide (s.2 = 0) = false := by simp [hs]
    go_enter Try.func101, Try.ntmps101
    go_wp2_with fail
    go_end0
    exact ⟨rfl, h, Kept.refl _ _⟩

theorem Done_any (w : World) (g : Nat) (s : RS) (h : RD w g s) : Calls Try.prog 53 #[.pointer (some ⟨g, 0, none⟩)] w fun r w' => r = .returned (.int .i64 (rD s)) ∧ w = w' := by
  obtain ⟨a, c, hc0, hc1, hf0, hf1, hl, ha, _, _, hh⟩ := h.cell
  by_cases hs : s.2 = 0
  · rw [hs] at hc1
    by_cases hlen : s.1.length = 0
    · have e1 : rD s = 0 := by unfold rD; rw [if_pos hs, if_pos hlen]
      rw [e1]
      rw [hlen] at hc0
      go_enter Try.func53, Try.ntmps53
      go_wp2_with fail
      go_ret
      exact ⟨rfl, rfl⟩
    · have e1 : rD s = 4 := by unfold rD; rw [if_pos hs, if_neg hlen]
      rw [e1]
      have hli : (0 : Int) < (s.1.length : Int) := by omega
      have hln : 0 < s.1.length := by omega
      go_enter Try.func53, Try.ntmps53
      go_wp2_with fail
      go_ret
      exact ⟨rfl, rfl⟩
  · have e1 : rD s = s.2 := by unfold rD; rw [if_neg hs]
    rw [e1]
    have hd : decide (s.2 = 0) = false := by simp [hs]
    go_enter Try.func53, Try.ntmps53
    go_wp2_with fail
    go_ret
    exact ⟨rfl, rfl⟩

theorem inBlock_own {v : Value} {k : Nat} (h : inBlock v k) : v.ownBlock = some k := by
  obtain ⟨ad, n, c, rfl, rfl⟩ := h
  rfl

theorem NewReader_any (w : World) (v : Value) (l : List UInt8) (h : Bs w v l) (hlen : l.length ≤ 70368744177664) : Calls Try.prog 50 #[v] w fun e w' => ∃ g, e = .returned (.pointer (some ⟨g, 0, none⟩)) ∧ w.heap.size ≤ g ∧ RD w' g (l, 0) ∧ Below w.heap.size w w' := by
  obtain ⟨a, c, rfl, hc, hm⟩ := h.shape
  go_enter Try.func50, Try.ntmps50
  go_wp2_with (first | (at_builtin; refine wpList_append_bytes rfl (.tmp 3) (.tmp 4) 25 rfl (l := []) (m := l) (base := w.heap.size) elem_byte rfl rfl (OwnB.lit0 rfl) (h.alloc _) (by simp; omega) (by simp) ?_; intro a' n' c' w' Hn' ho' hb' hg'))
  go_ret
  have hsz := hb'.size
  simp at hsz
  refine ⟨w'.heap.size, rfl, by omega, ⟨_, heap_new rfl, (OwnB.alloc ho' _).bs, fun k hk => ?_⟩, (((Below.refl _ _).alloc (Nat.le_refl _) _).trans hb').alloc (by omega) _⟩
  exact ho'.lt k (inBlock_own hk)

end Cam
