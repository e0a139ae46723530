import Derived.Test.YtgeclnjkkjmbaaaGreatProg
import Derived.Test.YtgeclnjkkjmbaaaGreatMem
import Derived.Test.YtgeclnjkkjmbaaaGreatPkPz
import Derived.WalkLawsBesides
import Derived.WalkSpells
import Derived.Lib.Hide
import Derived.Deep.QuietTactic
import Derived.BigQuiet
import Derived.Lib.SmallJoins
/- cambistkeep: bytes compared, copied, written over. -/
namespace Cam
open Go Go.RowKit Go.Proofs
set_option linter.unusedVariables false
set_option linter.unusedSimpArgs false
set_option maxHeartbeats 400000
theorem elem_u8 : Elem Tryz.prog 42 5 1 1 := Elem.mk' (z := .int .u8 0) Tryz.underlying42 (by kernel_rfl) rfl (by decide)
theorem Bytes_any (w : World) (va vb : Value) (la lb : List UInt8) (ha : Bs w va la) (hb : Bs w vb lb) :
  Calls Tryz.prog 9 #[va, vb] w fun e w' => e = .returned (.bool (decide (la = lb))) ∧ Below w.heap.size w w' := by
 obtain ⟨aa, capa, rfl, hcapa, hma⟩ := ha.shape
 obtain ⟨ab, capb, rfl, hcapb, hmb⟩ := hb.shape
 by_cases hl : la.length = lb.length
 ·
  have hl' : ((la.length : Int) != (lb.length : Int)) = false := by rw [hl]; simp
  have Hl := Lh hl
  have hlle : la.length ≤ lb.length := by omega
  clear hl
  go_in
  go_wp2
  go_loopw [5] (fun i wr => ∃ k : Nat, k ≤ la.length ∧ i = .int .i64 k ∧ la.take k = lb.take k ∧ Below w.heap.size w wr) (fun i _ => la.length - (intOf i).toNat)
  case atStart => exact ⟨0, Nat.zero_le _, rfl, rfl, Below.refl _ _⟩
  case round =>
   obtain ⟨k, hk, rfl, heq, hbel⟩ := hrel
   have Heq := Lh heq
   clear heq
   by_cases hlt : k < la.length
   ·
    obtain ⟨ba, offa, rfl, _, hca⟩ := (ha.mono hbel).at (by omega)
    obtain ⟨bb, offb, rfl, _, hcb⟩ := (hb.mono hbel).at (by omega)
    have hcka := hca k hlt
    have hckb := hcb k (by omega)
    clear hca hcb
    have hk0 : (0 : Int) ≤ k := by omega
    have hk1 : (k : Int) < la.length := by omega
    have hk2 : (k : Int) < lb.length := by omega
    go_wp2
    go_quiet (fail)
    have hbq := below_drewN' hbel nq
    by_cases hne : la[k] = lb[k]
    ·
     have hne' : ((la[k].toNat : Int) != (lb[k].toNat : Int)) = false := by rw [hne]; simp
     have Hne := Lh hne
     clear hne
     go_wp2
     go_roundw
     case rel => exact ⟨k + 1, by omega, by go_num, by rw [take_snoc _ _ hlt, take_snoc _ _ (by omega), Heq.out, Hne.out], hbq⟩
     case measure => simp [intOf]; omega
    ·
     have hne' : ((la[k].toNat : Int) != (lb[k].toNat : Int)) = true := by
      rw [bne_iff_ne]
      intro e
      exact hne (UInt8.toNat_inj.1 (by omega))
     have Hne := Lh hne
     clear hne
     go_wp2
     go_ret
     exact ⟨by rw [decide_eq_false (fun e => Hne.out (by simp [e]))]; rfl, hbq⟩
   ·
    have hall : la = lb := by
     have := Heq.out
     rwa [List.take_of_length_le (by omega), List.take_of_length_le (by rw [← Hl.out]; omega)] at this
    have Hall := Lh hall
    clear hall
    go_wp2
    go_ret
    exact ⟨by rw [decide_eq_true Hall.out]; rfl, hbel⟩
 ·
  have hl' : ((la.length : Int) != (lb.length : Int)) = true := by rw [bne_iff_ne]; omega
  have hne : la ≠ lb := fun e => hl (by rw [e])
  go_in
  go_wp2
  go_ret
  exact ⟨by rw [decide_eq_false hne]; rfl, Below.refl _ _⟩
theorem Twin_any (w : World) (v : Value) (l : List UInt8) (h : Bs w v l) (hl : l.length ≤ 140737488351232) :
  Calls Tryz.prog 10 #[v] w (RetB 5 w l) := by
 obtain ⟨a, cap, rfl, hcap, hm⟩ := h.shape
 go_in
 go_wp2_with (at_builtin; refine wpList_append_sl rfl (.tmp 4) (.tmp 5) 42 rfl elem_u8 rfl rfl (World.ownsRow_nil _ w.heap.size _ _) h (bs_oneCell _) (by unfold maxLen; omega) (by omega) (Nat.le_refl _) ?_; intro a2 cap2 w2 hown2 hg2 hb2)
 go_ret
 refine ⟨_, rfl, ?_, hb2⟩
 unfold OwnB
 simpa using hown2
end Cam
