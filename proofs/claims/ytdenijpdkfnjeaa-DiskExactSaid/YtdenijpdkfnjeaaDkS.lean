import Derived.Test.YtdenijpdkfnjeaaDkZ
import Derived.Laws.StructEq
import Derived.ChangeKeysEq
/- disk.Disk: Start; blocks compared. -/
namespace Cam
open Go Go.RowKit Go.Proofs

def dStart (D : DK) : DK := if D.off = true ∧ D.torn = true then { dCrash D [] with off := false } else { D with off := false }
theorem DM.putOff {w : World} {g gs gn : Nat} {vo : Value} {n : Nat} {D : DK} (h : DM w g gs gn vo n D) (b : Bool) : DM (w.setCell ⟨g, 3, none⟩ (.bool b)) g gs gn vo n { D with off := b } := h.put rfl rfl rfl rfl h.ok.arm

set_option maxRecDepth 100000 in
set_option maxHeartbeats 1600000 in
theorem Start_any (w : World) (g gs gn : Nat) (vo : Value) (n : Nat) (D : DK) (h : DM w g gs gn vo n D) :
    Calls Try.prog 14 #[.pointer (some ⟨g, 0, none⟩)] w fun e w' => e = .returned (.tuple #[]) ∧ DPost w g gs gn vo n (dStart D) w' := by
  obtain ⟨hc0, hc1, hc2, hc3, hc4, hc5⟩ := h.cells
  have hcr := Crash_any w g gs gn vo n D h (.slice none 0 0) [] (fun w' _ => Is.nil w')
  have hf3 := h.hd.frozen 3
  obtain ⟨o, ho⟩ : ∃ o, o = D.off := ⟨_, rfl⟩
  obtain ⟨t, ht⟩ : ∃ t, t = D.torn := ⟨_, rfl⟩
  have HD : Hid (dStart D = if o = true ∧ t = true then { dCrash D [] with off := false } else { D with off := false }) := by show _ = _; rw [ho, ht]; rfl
  rw [← ho] at hc3
  rw [← ht] at hc5
  have Hoff := Lib.hid (h.putOff false)
  clear ho ht h hc0 hc1 hc2 hc4
  cases o with
  | true =>
    cases t with
    | true =>
      go_enter Try.func14, Try.ntmps14
      go_wp2_with fail
      refine hcr.mono ?_
      rintro e w1 ⟨rfl, vo1, hd1, hk1, ho1⟩
      have hx3 := hd1.cells.2.2.2.1
      have hg3 := hd1.hd.frozen 3
      have Hd1 := Lib.hid (hd1.putOff false)
      have Hk1 := Lib.hid hk1
      clear hd1 hk1 hc3 hc5 hf3 hcr
      go_wp2_with fail
      go_end0
      rw [HD.out, if_pos (by simp)]
      exact ⟨rfl, vo1, Hd1.out, Hk1.out.trans DM.keptPut (fun i _ e => .inl e), ho1⟩
    | false =>
      clear hcr
      go_enter Try.func14, Try.ntmps14
      go_wp2_with fail
      go_end0
      rw [HD.out, if_neg (by simp)]
      exact ⟨rfl, vo, Hoff.out, DM.keptPut.weaken (fun i e => .inl e), fun k hk => .inl hk⟩
  | false =>
    clear hcr
    go_enter Try.func14, Try.ntmps14
    go_wp2_with fail
    go_end0
    rw [HD.out, if_neg (by simp)]
    exact ⟨rfl, vo, Hoff.out, DM.keptPut.weaken (fun i e => .inl e), fun k hk => .inl hk⟩

theorem eqItems_bytes (w : World) (d : Nat) (l m : List UInt8) (hl : l.length = 64) (hm : m.length = 64) : ∀ (is : List Nat), (∀ i ∈ is, i < 64) →
    (Op.eqItems (d + 1) 5 1 (bvs l).toArray (bvs m).toArray is).run Try.prog w = .ok (decide (∀ i ∈ is, l[i]? = m[i]?)) w
  | [], _ => by simp [Op.eqItems]
  | i :: is, h => by
    have hi := h i (by simp)
    have ih := eqItems_bytes w d l m hl hm is (fun j hj => h j (by simp [hj]))
    have h1 : (bvs l).toArray[i * 1]? = some (.int .u8 ((l[i]'(by omega)).toNat : Int)) := by simp [bvs, List.getElem?_eq_getElem (show i < l.length by omega)]
    have h2 : (bvs m).toArray[i * 1]? = some (.int .u8 ((m[i]'(by omega)).toNat : Int)) := by simp [bvs, List.getElem?_eq_getElem (show i < m.length by omega)]
    have hp : ∀ (xs : Array Value) v, xs[i * 1]? = some v → (part 5 xs (i * 1)).run Try.prog w = .ok v w := fun xs v hx => run_part_plain (w := w) (by kernel_rfl) hx
    simp only [Op.eqItems, Sem.run_bind]
    rw [hp _ _ h1, Result.andThen_ok, hp _ _ h2, Result.andThen_ok, run_equalIn_int (P := Try.prog) w d 5 .u8 .u8 _ _ Try.underlying5, Result.andThen_ok]
    have e1 : l[i]? = some (l[i]'(by omega)) := List.getElem?_eq_getElem (by omega)
    have e2 : m[i]? = some (m[i]'(by omega)) := List.getElem?_eq_getElem (by omega)
    by_cases hx : l[i]'(by omega) = m[i]'(by omega)
    · simp only [hx, beq_self_eq_true, Bool.not_true, Bool.false_eq_true, if_false]
      rw [ih]
      congr 1
      simp [e1, e2, hx]
    · have hne : ((((l[i]'(by omega)).toNat : Int)) == ((m[i]'(by omega)).toNat : Int)) = false := by
        simp
        intro e
        exact hx (UInt8.toNat_inj.1 (by omega))
      simp only [hne, Bool.not_false, if_true]
      simp [e1, e2, hx]

set_option maxRecDepth 100000 in
theorem blocks_eq (w : World) (l m : List UInt8) (hl : l.length = 64) (hm : m.length = 64) :
    (Op.equalIn 10000 29 (.agg (bvs l).toArray) (.agg (bvs m).toArray)).run Try.prog w = .ok (decide (l = m)) w := by
  obtain ⟨i, hi⟩ : ∃ i, Try.prog.info? 5 = some i := ⟨_, rfl⟩
  rw [show (10000 : Nat) = 9999 + 1 from rfl, run_equalIn_array w 9999 _ _ Try.underlying29 hi, show Try.prog.cellsOf 5 = 1 by kernel_rfl, show (9999 : Nat) = 9998 + 1 from rfl, eqItems_bytes w 9998 l m hl hm _ (fun i hi => List.mem_range.1 hi)]
  congr 1
  apply decide_eq_decide.2
  constructor
  · intro h
    apply List.ext_getElem?
    intro i
    by_cases hi : i < 64
    · exact h i (List.mem_range.2 hi)
    · rw [List.getElem?_eq_none (by omega), List.getElem?_eq_none (by omega)]
  · rintro rfl i _
    rfl

end Cam
