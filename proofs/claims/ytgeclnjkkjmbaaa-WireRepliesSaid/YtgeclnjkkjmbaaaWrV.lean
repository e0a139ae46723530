import Derived.Test.YtgeclnjkkjmbaaaWrU
import Derived.Test.YtgeclnjkkjmbaaaWrK
import Derived.BigQuiet
/- cambistref04.Reader: in memory; none, Done. -/
namespace Cam
open Go Go.RowKit Go.Proofs

/-- the page's reader at block g: all bytes, where it stands, its error -/
def QR (tq : TypeId) (w : World) (g : Nat) (B : List UInt8) (v : Value) (at_ : Nat) (e : Int) : Prop :=
  w.heap[g]? = some (.cells #[v, .int .i64 at_, .int .i64 e] tq (0, 0)) ∧ Bs w v B ∧ (B ≠ [] → ∀ k, inBlock v k → k < g) ∧ at_ ≤ B.length
variable {tq : TypeId}
theorem Kept.then {w w1 w2 : World} {g : Nat} (h : Kept (fun k => k = g) w w1) (h2 : Kept (fun k => k = g) w1 w2) : Kept (fun k => k = g) w w2 := h.trans h2 (fun _ _ h => h)
theorem QR.lt {w : World} {g : Nat} {B : List UInt8} {v : Value} {at_ : Nat} {e : Int} (h : QR tq w g B v at_ e) : g < w.heap.size := (Array.getElem?_eq_some_iff.1 h.1).1
theorem QR.kept {S : Nat → Prop} {w w' : World} {g : Nat} {B : List UInt8} {v : Value} {at_ : Nat} {e : Int} (h : QR tq w g B v at_ e) (hk : Kept S w w') (hS : ∀ k, k ≤ g → ¬ S k) : QR tq w' g B v at_ e :=
  ⟨hk.heap h.1 (hS g (Nat.le_refl _)), h.2.1.kept1 hk (fun hn k hi => hS k (Nat.le_of_lt (h.2.2.1 hn k hi))), h.2.2.1, h.2.2.2⟩
theorem QR.below {w w' : World} {g : Nat} {B : List UInt8} {v : Value} {at_ : Nat} {e : Int} (h : QR tq w g B v at_ e) (hb : Below w.heap.size w w') : QR tq w' g B v at_ e := h.kept (Kept.of_below hb) (fun _ _ h => h)
theorem QR.drewN {w : World} {g : Nat} {B : List UInt8} {v : Value} {at_ : Nat} {e : Int} (h : QR tq w g B v at_ e) (n : Nat) : QR tq (w.drewN n) g B v at_ e := h.below ⟨rfl, rfl, rfl, Nat.le_refl _, fun _ _ => rfl⟩
theorem Kept.drewN {S : Nat → Prop} {w w' : World} (h : Kept S w w') (n : Nat) : Kept S w (w'.drewN n) := ⟨h.os, h.tape, h.output, h.size, h.block⟩
theorem QR.cells {w : World} {g : Nat} {B : List UInt8} {v : Value} {at_ : Nat} {e : Int} (h : QR tq w g B v at_ e) :
    w.cell? ⟨g, 0, none⟩ = some v ∧ w.cell? ⟨g, 1, none⟩ = some (.int .i64 at_) ∧ w.cell? ⟨g, 2, none⟩ = some (.int .i64 e) ∧ w.frozen? ⟨g, 1, none⟩ = false ∧ w.frozen? ⟨g, 2, none⟩ = false := by
  unfold World.cell? World.frozen?
  rw [h.1]
  exact ⟨rfl, rfl, rfl, rfl, rfl⟩
theorem QR.byte {w : World} {g : Nat} {B : List UInt8} {a : Option Addr} {n c : Nat} {at_ : Nat} {e : Int} (h : QR tq w g B (.slice a n c) at_ e) {k : Nat} (hk : k < (B.drop at_).length) :
    ∃ b off, a = some ⟨b, off, none⟩ ∧ w.cell? ⟨b, off + (at_ + k), none⟩ = some (.int .u8 ((B.drop at_)[k].toNat : Int)) := by
  rw [List.length_drop] at hk
  obtain ⟨b, off, e, _, hc⟩ := h.2.1.at (by omega)
  refine ⟨b, off, e, ?_⟩
  rw [List.getElem_drop]
  exact hc (at_ + k) (by omega)
theorem QR.put1 {w : World} {g : Nat} {B : List UInt8} {v : Value} {at_ : Nat} {e : Int} (h : QR tq w g B v at_ e) (m : Nat) (hm : m ≤ B.length) : QR tq (w.setCell ⟨g, 1, none⟩ (.int .i64 m)) g B v m e ∧ Kept (fun k => k = g) w (w.setCell ⟨g, 1, none⟩ (.int .i64 m)) := by
  have hk : Kept (fun k => k = g) w (w.setCell ⟨g, 1, none⟩ (.int .i64 m)) := (Kept.refl _ w).setCell _ _ rfl
  refine ⟨⟨?_, h.2.1.kept1 hk (fun hn k hi e => ?_), h.2.2.1, hm⟩, hk⟩
  · rw [heap_setCell_same w g 1 _ _ _ h.1]
    rfl
  · have := h.2.2.1 hn k hi
    omega
theorem QR.put2 {w : World} {g : Nat} {B : List UInt8} {v : Value} {at_ : Nat} {e : Int} (h : QR tq w g B v at_ e) (e' : Int) : QR tq (w.setCell ⟨g, 2, none⟩ (.int .i64 e')) g B v at_ e' ∧ Kept (fun k => k = g) w (w.setCell ⟨g, 2, none⟩ (.int .i64 e')) := by
  have hk : Kept (fun k => k = g) w (w.setCell ⟨g, 2, none⟩ (.int .i64 e')) := (Kept.refl _ w).setCell _ _ rfl
  refine ⟨⟨?_, h.2.1.kept1 hk (fun hn k hi e => ?_), h.2.2.1, h.2.2.2⟩, hk⟩
  · rw [heap_setCell_same w g 2 _ _ _ h.1]
    rfl
  · have := h.2.2.1 hn k hi
    omega

theorem qnone_any (w : World) (g : Nat) (B : List UInt8) (v : Value) (at_ : Nat) (h : QR tq w g B v at_ 0) (e : Int) : Calls Try.prog 54 #[.pointer (some ⟨g, 0, none⟩), .int .i64 e] w fun r w' => r = .returned (.tuple #[]) ∧ QR tq w' g B v at_ e ∧ Kept (fun k => k = g) w w' := by
  obtain ⟨hc0, hc1, hc2, hf1, hf2⟩ := h.cells
  have Hput := Lib.hid (h.put2 e)
  clear h
  go_enter Try.func54, Try.ntmps54
  go_wp2_with fail
  go_end0
  exact ⟨rfl, Hput.out⟩

set_option maxHeartbeats 800000 in
theorem QDone_any (w : World) (g : Nat) (B : List UInt8) (v : Value) (at_ : Nat) (e : Int) (h : QR tq w g B v at_ e) : Calls Try.prog 36 #[.pointer (some ⟨g, 0, none⟩)] w fun r w' => r = .returned (.int .i64 (rD (B.drop at_, e))) ∧ Below w.heap.size w w' := by
  obtain ⟨hc0, hc1, hc2, hf1, hf2⟩ := h.cells
  obtain ⟨a, c, rfl, _, _⟩ := h.2.1.shape
  have hat := h.2.2.2
  by_cases he : e = 0
  · subst he
    by_cases hlt : at_ < B.length
    · have hi : decide ((at_ : Int) < (B.length : Int)) = true := by simp; omega
      have HD : Hid (rD (B.drop at_, 0) = 4) := by show _ = _; unfold rD; rw [if_pos rfl, if_neg (by rw [List.length_drop]; omega)]
      clear h
      go_enter Try.func36, Try.ntmps36
      go_wp2_with fail
      go_quiet (fail)
      go_wp2_with fail
      go_ret
      exact ⟨by rw [HD.out]; rfl, below_drewN' (Below.refl _ _) _⟩
    · have hi : decide ((at_ : Int) < (B.length : Int)) = false := by simp; omega
      have HD : Hid (rD (B.drop at_, 0) = 0) := by show _ = _; unfold rD; rw [if_pos rfl, if_pos (by rw [List.length_drop]; omega)]
      clear h
      go_enter Try.func36, Try.ntmps36
      go_wp2_with fail
      go_quiet (fail)
      go_wp2_with fail
      go_ret
      exact ⟨by rw [HD.out]; rfl, below_drewN' (Below.refl _ _) _⟩
  · have hb : ((e : Int) == 0) = false := by simp [he]
    have HD : Hid (rD (B.drop at_, e) = e) := by show _ = _; unfold rD; rw [if_neg he]
    clear h
    go_enter Try.func36, Try.ntmps36
    go_wp2_with fail
    go_quiet (fail)
    go_wp2_with fail
    go_ret
    exact ⟨by rw [HD.out]; rfl, below_drewN' (Below.refl _ _) _⟩

end Cam
