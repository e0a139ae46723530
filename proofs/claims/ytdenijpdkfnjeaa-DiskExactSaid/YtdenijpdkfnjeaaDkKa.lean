import Derived.Test.YtdenijpdkfnjeaaDkS
/- A disk that is on, and not armed; Write. -/
namespace Cam
open Go Go.RowKit Go.Proofs

theorem DPost.dm {w w' : World} {g gs gn : Nat} {vo : Value} {n : Nat} {D : DK} (h : DPost w g gs gn vo n D w') : ∃ vo', DM w' g gs gn vo' n D ∧ Kept (DS g gs gn vo) w w' ∧ ∀ k, vo'.ownBlock = some k → vo.ownBlock = some k ∨ w.heap.size ≤ k := h
/-- all of a disk's blocks lie at B or behind it -/
def Far (B g gs gn : Nat) (vo : Value) : Prop := B ≤ g ∧ B ≤ gs ∧ B ≤ gn ∧ ∀ k, vo.ownBlock = some k → B ≤ k
theorem Far.below {B : Nat} {w w' : World} {g gs gn : Nat} {vo : Value} (h : Far B g gs gn vo) (hk : Kept (DS g gs gn vo) w w') (hB : B ≤ w.heap.size) : Below B w w' :=
  hk.below (fun k hk hs => by
    obtain ⟨h1, h2, h3, h4⟩ := h
    rcases hs with rfl | rfl | rfl | e
    · omega
    · omega
    · omega
    · have := h4 k e
      omega) hB
theorem Far.next {B : Nat} {w : World} {g gs gn : Nat} {vo vo' : Value} (h : Far B g gs gn vo) (ho : ∀ k, vo'.ownBlock = some k → vo.ownBlock = some k ∨ w.heap.size ≤ k) (hB : B ≤ w.heap.size) : Far B g gs gn vo' :=
  ⟨h.1, h.2.1, h.2.2.1, fun k hk => by
    rcases ho k hk with e | e
    · exact h.2.2.2 k e
    · omega⟩

theorem Write_on (w : World) (g gs gn : Nat) (vo : Value) (n : Nat) (D : DK) (h : DM w g gs gn vo n D) (k : Nat) (b : List UInt8) (hoff : D.off = false) (harm : D.arm = 0) (hk : k < n) (hb : b.length = 64) (hf : D.op.length < 1000000) :
    Calls Try.prog 10 #[.pointer (some ⟨g, 0, none⟩), .int .i64 (k : Int), .agg (bvs b).toArray] w fun e w' => e = .returned (.int .i64 0) ∧ DPost w g gs gn vo n (dPut D k b) w' := by
  have := Write_ok w g gs gn vo n D h k b hoff hk hb hf
  have e : dLast (dPut D k b) = (false, dPut D k b) := by unfold dLast; rw [if_pos (show (dPut D k b).arm = 0 from harm)]
  rw [e] at this
  exact this
def dSynced (D : DK) : DK := { D with syn := sets D.syn D.op, op := [] }
theorem Sync_on (w : World) (g gs gn : Nat) (vo : Value) (n : Nat) (D : DK) (h : DM w g gs gn vo n D) (hoff : D.off = false) (harm : D.arm = 0) :
    Calls Try.prog 12 #[.pointer (some ⟨g, 0, none⟩)] w fun e w' => e = .returned (.int .i64 0) ∧ DPost w g gs gn vo n (dSynced D) w' := by
  have := Sync_any w g gs gn vo n D h
  have e : dSync D = (0, dSynced D) := by
    have e1 : dLast D = (false, D) := by unfold dLast; rw [if_pos harm]
    unfold dSync
    rw [if_neg (by simp [hoff]), e1]
    rfl
  rw [e] at this
  exact this
theorem Read_on (w : World) (g gs gn : Nat) (vo : Value) (n : Nat) (D : DK) (h : DM w g gs gn vo n D) (hoff : D.off = false) (k : Nat) (hk : k < n) (b : List UInt8) (hb : D.now[k]? = some b) :
    Calls Try.prog 15 #[.pointer (some ⟨g, 0, none⟩), .int .i64 (k : Int)] w fun e w' => e = .returned (.tuple #[.agg (bvs b).toArray, .int .i64 0]) ∧ Below w.heap.size w w' := by
  have := Read_any w g gs gn vo n D h (k : Int)
  rw [dRight_ok hoff hk] at this
  refine this.mono ?_
  rintro e w' ⟨⟨b', rfl, h1, _⟩, hb'⟩
  have e1 := h1 rfl
  rw [Int.toNat_natCast, hb] at e1
  obtain rfl := Option.some.inj e1
  exact ⟨rfl, hb'⟩

def dWrite (D : DK) (k : Nat) (b : List UInt8) : Int × DK := if D.off = true then (7, D) else (if (dLast (dPut D k b)).1 = true then 7 else 0, (dLast (dPut D k b)).2)
set_option maxHeartbeats 1600000 in
theorem Write_any (w : World) (g gs gn : Nat) (vo : Value) (n : Nat) (D : DK) (h : DM w g gs gn vo n D) (k : Nat) (b : List UInt8) (hk : k < n) (hb : b.length = 64) (hf : D.op.length < 1000000) :
    Calls Try.prog 10 #[.pointer (some ⟨g, 0, none⟩), .int .i64 (k : Int), .agg (bvs b).toArray] w fun e w' => e = .returned (.int .i64 (dWrite D k b).1) ∧ DPost w g gs gn vo n (dWrite D k b).2 w' := by
  by_cases hoff : D.off = true
  · have e : dWrite D k b = (7, D) := by unfold dWrite; rw [if_pos hoff]
    rw [e]
    have hA := h.alloc (.cells (bvs b).toArray 29)
    have hri := right_any _ g gs gn vo n D hA (k : Int)
    rw [show dRight n D (k : Int) = 7 by unfold dRight; rw [if_pos hoff]] at hri
    have HA := Lib.hid hA
    clear hA h hoff e hb hf
    go_enter Try.func10, Try.ntmps10
    go_wp2_with fail
    refine hri.mono ?_
    rintro e w1 ⟨rfl, rfl⟩
    go_wp2_with fail
    go_ret
    exact ⟨rfl, vo, HA.out, (Kept.refl _ w).alloc _, fun j hj => .inl hj⟩
  · have e : dWrite D k b = (if (dLast (dPut D k b)).1 = true then 7 else 0, (dLast (dPut D k b)).2) := by unfold dWrite; rw [if_neg hoff]
    rw [e]
    exact Write_ok w g gs gn vo n D h k b (by simpa using hoff) hk hb hf
end Cam
