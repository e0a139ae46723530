import Derived.Test.YtdenijpdkfnjeaaDkBa
/- cambistlaw06: Block. -/
namespace Cam
open Go Go.RowKit Go.Proofs
def part64 (k : Nat) (c : UInt8) : List UInt8 := List.replicate k c ++ List.replicate (64 - k) 0
theorem part64_zero (c : UInt8) : part64 0 c = List.replicate 64 0 := rfl
theorem part64_all (c : UInt8) : part64 64 c = List.replicate 64 c := by simp [part64]
theorem part64_set (k : Nat) (c : UInt8) (h : k < 64) : (bvs (part64 k c)).set k (.int .u8 (c.toNat : Int)) = bvs (part64 (k + 1) c) := by
  apply List.ext_getElem?
  intro i
  simp only [part64, bvs, List.map_append, List.map_replicate, List.getElem?_set, List.getElem?_append, List.getElem?_replicate, List.length_append, List.length_replicate]
  grind
theorem part64_at (k : Nat) (c : UInt8) (h : k < 64) : (bvs (part64 k c))[k]? = some (.int .u8 0) := by
  simp only [part64, bvs, List.map_append, List.map_replicate, List.getElem?_append, List.getElem?_replicate, List.length_replicate]
  rw [if_neg (by omega), if_pos (by omega)]
  rfl

set_option maxHeartbeats 1600000 in
theorem Block_any (w : World) (c : UInt8) :
    Calls Try.prog 11 #[.int .u8 (c.toNat : Int)] w fun e w' => e = .returned (.agg (bvs (List.replicate 64 c)).toArray) ∧ Below w.heap.size w w' := by
  go_enter Try.func11, Try.ntmps11
  go_wp2_with fail
  go_loopw [4] (fun i wr => ∃ k : Nat, k ≤ 64 ∧ i = .int .i64 k ∧ HC wr (w.heap.size + 1) (bvs (part64 k c)) ∧ HC wr w.heap.size (bvs (List.replicate 64 0)) ∧ Below w.heap.size w wr) (fun i _ => 64 - (intOf i).toNat)
  case atStart =>
    refine ⟨0, by omega, rfl, ⟨29, heap_new (by simp)⟩, HC.alloc ⟨29, heap_new rfl⟩ _, ((Below.refl _ _).alloc (Nat.le_refl _) _).alloc (by simp) _⟩
  case round =>
    obtain ⟨k, hk, rfl, h1, h0, hb⟩ := hrel
    by_cases hlt : k < 64
    · have hc := h1.cell (part64_at k c hlt)
      have hf := h1.frozen k
      have hp := h1.put k (.int .u8 (c.toNat : Int))
      rw [part64_set k c hlt] at hp
      have HP := Lib.hid hp
      have HB := Lib.hid (hb.setCell (p := ⟨w.heap.size + 1, k, none⟩) (by simp) (.int .u8 (c.toNat : Int)))
      have H0 := Lib.hid (h0.kept (S := fun j => j = w.heap.size + 1) ((Kept.refl _ wr).setCell ⟨w.heap.size + 1, k, none⟩ (.int .u8 (c.toNat : Int)) rfl) (by omega))
      clear hp h1 h0 hb
      go_wp2_with fail
      exact ⟨⟨k + 1, by omega, by push_cast; rfl, HP.out, H0.out, HB.out⟩, by simp [intOf]; omega⟩
    · obtain rfl : k = 64 := by omega
      rw [part64_all] at h1
      have hr := h1.bytes
      have hsz := size64_of (l := List.replicate 64 c) (by simp)
      have Hr := Lib.hid hr
      have Hs := Lib.hid hsz
      clear hr hsz
      go_wp2_with (first
        | (refine wpList_load_mid rfl 29 (.tmp 3) rfl (w.heap.size + 1) 0 rfl (bvs (List.replicate 64 c)) _ Hr.out Try.underlying29 rfl Hs.out ?_)
        | (refine wpList_store_mid rfl 29 (.tmp 2) (.tmp 12) rfl w.heap.size 0 (bvs (List.replicate 64 c)).toArray rfl rfl (by simpa using h0.room (m := List.replicate 64 c) (by simp) (by simp)) (by simpa using Hs.out) (all_oneCell_toArray (bs_oneCell _)) ?_)
        | fail)
      have hz := (h0.puts (vs := bvs (List.replicate 64 c)) (o := 0) (by rw [bvs_length, bvs_length]; simp))
      rw [splice_all _ _ (by simp)] at hz
      refine bodyPost_ret (ret_row rfl hz (by simp) rfl) rfl ⟨rfl, hb.trans ((setCells_kept _ _ _ _).below (fun k hk e => by omega) hb.size)⟩

end Cam
