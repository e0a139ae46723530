import Derived.Test.YtfkkojdaceedpaaPkVT
import Derived.Test.YtfkkojdaceedpaaKeep
/- cambistlaw04: SpoilBytes' and NewReader's frames. -/
namespace Cam
open Go Go.RowKit Go.Proofs

theorem kept_of_below {B : Nat} {w w' : World} (h : Below B w w') : Kept (fun k => B ≤ k) w w' := ⟨h.os, h.tape, h.output, h.size, fun k _ hn => h.block k (Nat.lt_of_not_le hn)⟩

set_option maxHeartbeats 400000 in
theorem SpoilBytes_own (w : World) (base : Nat) (v : Value) (l : List UInt8) (h : OwnB 5 w base v l) :
    Calls Try.prog 16 #[v] w fun e w' => e = .returned (.tuple #[]) ∧ Kept (fun k => v.ownBlock = some k) w w' := by
  obtain ⟨a, cap, rfl⟩ := h.shape
  go_enter Try.func16, Try.ntmps16
  go_wp2
  have hl63 : l.length ≤ 9223372036854775807 := by
    obtain ⟨_, _, _, h1, h2⟩ := h.bs.shape
    omega
  go_loopw [2] (fun i wr => ∃ (k : Nat) (xs : List Value), k ≤ l.length ∧ i = .int .i64 k ∧ wr.ownsRow base 5 1 (.slice a l.length cap) l.length xs ∧ (∀ u ∈ xs, ∃ n : Int, u = .int .u8 n) ∧ Kept (fun k => (Value.slice a l.length cap).ownBlock = some k) w wr) (fun i _ => l.length - (intOf i).toNat)
  case atStart => exact ⟨0, bvs l, Nat.zero_le _, rfl, h, fun u hu => by obtain ⟨c, _, rfl⟩ := List.mem_map.1 hu; exact ⟨_, rfl⟩, Kept.refl _ _⟩
  case round =>
    obtain ⟨k, xs, hk, rfl, hown, hall, hbel⟩ := hrel
    by_cases hlt : k < l.length
    · obtain ⟨g, cap', hv⟩ := Joins.ownsRow_form hown (by omega)
      simp only [Value.slice.injEq, true_and] at hv
      obtain ⟨rfl, rfl⟩ := hv
      have hxl := hown.1
      have hkx : k < xs.length := by omega
      obtain ⟨n, hn⟩ := hall xs[k] (List.getElem_mem hkx)
      have hck := hown.cellAt k (by omega)
      rw [List.getElem?_eq_getElem hkx, hn] at hck
      have hfr := hown.frozenAt k
      obtain ⟨hst, hgr⟩ := hown.stored k (.int .u8 ((n + 101) % 256))
      have Hbel := Lib.hid hbel
      have Hall := Lib.hid hall
      clear hall hxl hn hbel
      go_wp2
      go_roundw
      case rel =>
        refine ⟨k + 1, xs.set k (.int .u8 ((n + 101) % 256)), by omega, by go_num, hst, fun u hu => ?_, Hbel.out.setCell _ _ rfl⟩
        rcases List.mem_or_eq_of_mem_set hu with h1 | rfl
        · exact Hall.out u h1
        · exact ⟨_, rfl⟩
      case measure => simp [intOf]; omega
    · go_wp2
      go_end0
      exact ⟨rfl, hbel⟩

theorem NewReader_far (w : World) (v : Value) (l : List UInt8) (h : Bs w v l) (hlen : l.length ≤ 70368744177664) : Calls Try.prog 19 #[v] w fun e w' => ∃ g, e = .returned (.pointer (some ⟨g, 0, none⟩)) ∧ w.heap.size ≤ g ∧ RD w' g (l, 0) ∧ Below w.heap.size w w' ∧ ∀ (S : Nat → Prop) w2, Kept S w' w2 → (∀ k, S k → k < w.heap.size) → RD w2 g (l, 0) := by
  obtain ⟨a, c, rfl, hc, hm⟩ := h.shape
  go_enter Try.func19, Try.ntmps19
  go_wp2_with (first | (at_builtin; refine wpList_append_bytes rfl (.tmp 3) (.tmp 4) 25 rfl (l := []) (m := l) (base := w.heap.size) elem_byte rfl rfl (OwnB.lit0 rfl) (h.alloc _) (by simp; omega) (by simp) ?_; intro a' n' c' w' Hn' ho' hb' hg'))
  go_ret
  have hsz := hb'.size
  simp at hsz
  have hk : ∀ k, inBlock (.slice a' n' c') k → w.heap.size ≤ k ∧ k < w'.heap.size := fun k hk => World.ownsRow.lt ho' k (inBlock_own hk)
  have hrd : RD (w'.alloc (.cells #[.slice a' n' c', .int .i64 0] 59)) w'.heap.size (l, 0) := ⟨_, heap_new rfl, (OwnB.alloc ho' _).bs, fun k hi => (hk k hi).2⟩
  refine ⟨w'.heap.size, rfl, by omega, hrd, (((Below.refl _ _).alloc (Nat.le_refl _) _).trans hb').alloc (by omega) _, fun S w2 hk2 hS => ?_⟩
  have hlt := hrd.lt
  refine ⟨_, hk2.heap (heap_new rfl) (fun hs => by have := hS _ hs; omega), Bs.kept (OwnB.alloc ho' _).bs hk2 (fun k hi hs => by have := hS _ hs; have := (hk k hi).1; omega), fun k hi => (hk k hi).2⟩

theorem QR.keptG {w w' : World} {g gq : Nat} {B : List UInt8} {v : Value} {at_ : Nat} {e : Int} (h : QR w gq B v at_ e) (hk : Kept (fun k => k = g) w w') (hne : gq ≠ g) (hv : B ≠ [] → ∀ k, inBlock v k → k ≠ g) : QR w' gq B v at_ e :=
  ⟨hk.heap h.1 hne, h.2.1.kept1 hk (fun hn k hi => hv hn k hi), h.2.2.1, h.2.2.2⟩

end Cam
