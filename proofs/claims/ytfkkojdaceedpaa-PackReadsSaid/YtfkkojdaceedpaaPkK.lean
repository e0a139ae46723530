import Derived.Test.YtfkkojdaceedpaaPkT
import Derived.Test.YtfkkojdaceedpaaKeep
/- cambistlaw04: wakes. -/
namespace Cam
open Go Go.RowKit Go.Proofs

theorem PW.new {w : World} {g : Nat} (hg : g = w.heap.size) : PW (w.alloc (.cells #[.slice none 0 0, .bool false] 27)) g (.slice none 0 0) [] false :=
  ⟨heap_new hg, OwnB.empty _ _ _⟩
theorem encIs_wakes : encIs [0, -1, 64] = [0, 1, 128, 1] := by
  simp only [encIs, encI, List.map_cons, List.map_nil, List.flatten_cons, List.flatten_nil]
  rw [show zig 0 = 0 from rfl, show zig (-1) = 1 from rfl, show zig 64 = 128 from rfl, venc_low 0 (by omega), venc_low 1 (by omega), venc_high 128 (by omega), venc_low (128 / 128) (by omega)]
  rfl
theorem Bs.lit4 {w : World} {g : Nat} (hg : g = w.heap.size) (e : TypeId) : Bs (w.alloc (.cells #[.int .u8 0, .int .u8 1, .int .u8 128, .int .u8 1] e)) (.slice (some ⟨g, 0, none⟩) 4 4) [0, 1, 128, 1] :=
  Bs.block (l := [0, 1, 128, 1]) (heap_new hg) (Nat.le_refl _) (by simp [maxLen])

set_option maxHeartbeats 800000 in
theorem wakes_any (w : World) : Calls Try.prog 14 #[] w fun e w' => e = .returned (.bool true) ∧ Below w.heap.size w w' := by
  have hp0 := PW.new (w := w) rfl
  have wi := WInt_any ((w.alloc (.cells #[.slice none 0 0, .bool false] 27)).alloc (.cells #[.int .i64 0, .int .i64 (-1), .int .i64 64] 3)) w.heap.size (.slice none 0 0) [] false (.slice (some ⟨w.heap.size + 1, 0, none⟩) 3 3) [0, -1, 64] (hp0.alloc _)
    (Is.block (l := [0, -1, 64]) (heap_new (by simp)) (Nat.le_refl _) (by simp [maxLen]))
    (fun w' hk => Is.block (l := [0, -1, 64]) (hk.heap (heap_new (by simp)) (by
      rintro (e | e)
      · omega
      · simp [Value.ownBlock] at e)) (Nat.le_refl _) (by simp [maxLen])) (by intro n hn; simp at hn; omega) (by simp)
  rw [encIs_wakes, List.nil_append] at wi
  go_enter Try.func14, Try.ntmps14
  go_wp2_with fail
  refine wi.mono ?_
  rintro e w1 ⟨rfl, v1, hp1, hk1, ho1⟩
  go_wp2_with fail
  refine (WBytes_ok _ _ _ _ hp1 (by simp)).mono ?_
  rintro e w2 ⟨⟨r, rfl, hr⟩, hb2⟩
  have hb0 : Below w.heap.size w w1 := (((Below.refl _ w).alloc (Nat.le_refl _) _).alloc (by simp) _).trans (hk1.below (by
    rintro k hk (e | e)
    · omega
    · simp [Value.ownBlock] at e) (by simp; omega))
  have hbb := hb0.next hb2
  obtain ⟨a2, n2, c2, rfl, Hn2, _⟩ := OwnB.named hr
  go_wp2_with (first | (go_at_call 15; refine (Bytes_any _ _ _ _ _ (hr.bs.alloc _) (Bs.lit4 rfl _)).mono ?_; rintro e w3 ⟨rfl, hb3⟩) | fail)
  go_ret
  exact ⟨by simp, hbb.next hb3.un⟩

end Cam
