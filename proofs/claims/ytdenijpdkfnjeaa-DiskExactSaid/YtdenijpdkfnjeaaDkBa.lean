import Derived.Test.YtdenijpdkfnjeaaDkM
import Derived.Test.YtdenijpdkfnjeaaProg
import Derived.Laws.ResultCell
/- Blocks of 64 bytes. -/
namespace Cam
open Go Go.RowKit Go.Proofs

theorem size64 : (Try.prog.info? 29).map (·.size) = some 64 := by kernel_rfl
theorem bvs_length (l : List UInt8) : (bvs l).length = l.length := by simp [bvs]
theorem size64_of {l : List UInt8} (h : l.length = 64) : (Try.prog.info? 29).map (·.size) = some (bvs l).length := by rw [bvs_length, h]; exact size64
theorem HC.bytes {w : World} {g : Nat} {l : List UInt8} (h : HC w g (bvs l)) : w.rangeAt g 0 (bvs l) := h.range 0 (fun j v hv => by rw [Nat.zero_add]; exact hv)
theorem HC.room {w : World} {g : Nat} {l m : List UInt8} (h : HC w g (bvs l)) (hl : l.length = 64) (hm : m.length = 64) : w.there g 0 (bvs m).length := h.there (by rw [bvs_length, bvs_length]; omega)
theorem splice_all (l m : List UInt8) (h : l.length = m.length) : splice (bvs l) 0 (bvs m) = bvs m := by
  unfold splice
  rw [List.take_zero, List.nil_append, Nat.zero_add, List.drop_of_length_le (by rw [bvs_length, bvs_length]; omega), List.append_nil]

theorem ret_row {fn : Func} {p : Tmp} (h : fn.results = #[.cell p 29]) {tmps : Array Value} {w : World} {g : Nat} {l : List UInt8} (hc : HC w g (bvs l)) (hl : l.length = 64) (hp : tmps.getD p undef = .pointer (some ⟨g, 0, none⟩)) :
    (results fn tmps).run Try.prog w = .ok (.agg (bvs l).toArray) w := by
  obtain ⟨t, ht⟩ := hc
  exact results_cell_row h tmps w g t _ (0, 0) _ hp ht Try.underlying29 rfl (by simpa using size64_of hl)

end Cam
