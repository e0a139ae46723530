import Derived.Test.YtpojkppgdedpaaaFrSum
import Derived.Lib.SmallJoins
/- The sum of nine digits; comparing, copying and writing over bytes. -/
namespace Cam
open Go Go.RowKit Go.Proofs

theorem wakes_args (w : World) (e t : TypeId) :
    Bss (((w.alloc (.cells #[.int .u8 49, .int .u8 50, .int .u8 51, .int .u8 52] e (4, 5))).alloc (.cells #[.int .u8 53, .int .u8 54, .int .u8 55, .int .u8 56, .int .u8 57] e (5, 6))).alloc (.cells #[.slice (some ⟨w.heap.size, 0, none⟩) 4 4, .slice (some ⟨w.heap.size + 1, 0, none⟩) 5 5] t))
      (.slice (some ⟨w.heap.size + 1 + 1, 0, none⟩) 2 2) [[49, 50, 51, 52], [53, 54, 55, 56, 57]] := by
  have h0 : (((w.alloc (.cells #[.int .u8 49, .int .u8 50, .int .u8 51, .int .u8 52] e (4, 5))).alloc (.cells #[.int .u8 53, .int .u8 54, .int .u8 55, .int .u8 56, .int .u8 57] e (5, 6))).alloc (.cells #[.slice (some ⟨w.heap.size, 0, none⟩) 4 4, .slice (some ⟨w.heap.size + 1, 0, none⟩) 5 5] t)).heap[w.heap.size]? = some (.cells (bvs [49, 50, 51, 52]).toArray e (4, 5)) := by
    rw [heap_at, if_neg (by simp; omega), heap_at, if_neg (by simp), heap_at, if_pos rfl]
    rfl
  have h1 : (((w.alloc (.cells #[.int .u8 49, .int .u8 50, .int .u8 51, .int .u8 52] e (4, 5))).alloc (.cells #[.int .u8 53, .int .u8 54, .int .u8 55, .int .u8 56, .int .u8 57] e (5, 6))).alloc (.cells #[.slice (some ⟨w.heap.size, 0, none⟩) 4 4, .slice (some ⟨w.heap.size + 1, 0, none⟩) 5 5] t)).heap[w.heap.size + 1]? = some (.cells (bvs [53, 54, 55, 56, 57]).toArray e (5, 6)) := by
    rw [heap_at, if_neg (by simp), heap_at, if_pos (by simp)]
    rfl
  have h2 : (((w.alloc (.cells #[.int .u8 49, .int .u8 50, .int .u8 51, .int .u8 52] e (4, 5))).alloc (.cells #[.int .u8 53, .int .u8 54, .int .u8 55, .int .u8 56, .int .u8 57] e (5, 6))).alloc (.cells #[.slice (some ⟨w.heap.size, 0, none⟩) 4 4, .slice (some ⟨w.heap.size + 1, 0, none⟩) 5 5] t)).heap[w.heap.size + 1 + 1]? = some (.cells #[.slice (some ⟨w.heap.size, 0, none⟩) 4 4, .slice (some ⟨w.heap.size + 1, 0, none⟩) 5 5] t) := by
    rw [heap_at, if_pos (by simp)]
  exact Bss.mk2 h2 (Bs.block h0 (by simp) (by simp [maxLen])) (Bs.block h1 (by simp) (by simp [maxLen]))

set_option maxHeartbeats 400000 in
theorem wakes_any (w : World) :
    Calls Try.prog 12 #[] w fun e w' => e = .returned (.bool true) ∧ Below w.heap.size w w' := by
  have kc := fun (w : World) (C : Array Value) (n c g : Nat) (hg : g = w.heap.size) => Joins.run_convert_bytes_const_at (P := Try.prog) w 23 5 C n c g hg Try.underlying23 Try.underlying5
  go_enter Try.func12, Try.ntmps12
  go_wp2_with fail
  refine (Sum_any _ _ _ (wakes_args w 5 23)).mono ?_
  rintro e w1 ⟨rfl, hb1⟩
  have hw : crc ([[49, 50, 51, 52], [53, 54, 55, 56, 57]] : List (List UInt8)).flatten = 3421780262 := crc_wakes
  rw [hw]
  clear hw
  go_wp2
  go_ret
  exact ⟨rfl, hb1.un.un.un⟩

end Cam
