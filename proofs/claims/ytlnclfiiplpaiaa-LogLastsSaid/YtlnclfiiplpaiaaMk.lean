import Derived.Test.YtlnclfiiplpaiaaMemA
import Derived.Test.YtlnclfiiplpaiaaProg
/- bytes that are made, and stored into. -/
namespace Cam
open Go Go.RowKit Go.Proofs

/-- 'make([]byte, n)' -/
theorem make_bytes {P : Program} {w : World} {ops : Array Oper} {rest : List Oper} {o : Oper} {a : Act} {Q : Exit → Act → World → Prop}
    (hg : o.guard = none) (l c : Operand) (t : TypeId) (hop : o.op = Op.makeSlice t l c) {e : Nat} (E : Elem P t e 1 1) (hz : ∀ i, P.info? e = some i → i.zero = some (.int .u8 0)) (n : Nat) (hl : a.eval l = .int .i64 n) (hc : a.eval c = .int .i64 n)
    (hn : n ≤ 140737488355328)
    (h : ∀ a' c' w', OwnB e w' w.heap.size (.slice a' n c') (List.replicate n 0) → Below w.heap.size w w' → wpList P ops Q rest (a.put o.dst (.slice a' n c')) w') : wpList P ops Q (o :: rest) a w := by
  obtain ⟨ht, ⟨i, z, hi, hz', hs, hby, hzs⟩, hp⟩ := E
  have hzz := hz i hi
  rw [hz'] at hzz
  cases hzz
  refine wpList_make_full w hg l c t hop w.heap.size e i (.int .u8 0) 1 ht hi hz' hs .i64 .i64 n n n hl hc rfl rfl (by rw [hby]; omega) (by unfold maxLen; omega) (Nat.le_refl _) (fun w' h1 h2 => ?_)
  refine h _ _ w' ?_ ((Below.refl _ _).grown h2 (Nat.le_refl _) (fun k hk => by cases hk))
  unfold OwnB
  rw [List.length_replicate]
  have e1 : (madeCells (Value.int .u8 0).cells (n * 1)).toList = bvs (List.replicate n 0) := by
    show (madeCells #[Value.int .u8 0] (n * 1)).toList = _
    rw [toList_madeCells_one, Nat.mul_one]
    unfold bvs
    rw [List.map_replicate]
    rfl
  rw [← e1]
  exact h1

theorem zero_byte : ∀ i, Try.prog.info? 5 = some i → i.zero = some (.int .u8 0) := by
  intro i hi
  have h : (Try.prog.info? 5).map (·.zero) = some (some (.int .u8 0)) := by kernel_rfl
  rw [hi] at h
  simpa using h

theorem OwnB.putAt {t : TypeId} {w : World} {base g n c : Nat} {l : List UInt8} (h : OwnB t w base (.slice (some ⟨g, 0, none⟩) n c) l) {j : Nat} (x : UInt8) :
    OwnB t (w.setCell ⟨g, j, none⟩ (.int .u8 (x.toNat : Int))) base (.slice (some ⟨g, 0, none⟩) n c) (l.set j x) := by
  unfold OwnB at h ⊢
  obtain ⟨a, cap, hsh, _⟩ := Bs.of_owns h |>.shape
  simp only [Value.slice.injEq] at hsh
  obtain ⟨_, rfl, _⟩ := hsh
  have := (World.ownsRow.stored h j (.int .u8 (x.toNat : Int))).1
  rw [List.length_set]
  have e : (bvs l).set j (.int .u8 (x.toNat : Int)) = bvs (l.set j x) := by
    unfold bvs
    rw [List.map_set]
  rw [← e]
  exact this

theorem OwnB.cellIn {t : TypeId} {w : World} {base g n c : Nat} {l : List UInt8} (h : OwnB t w base (.slice (some ⟨g, 0, none⟩) n c) l) {j : Nat} (hj : j < l.length) :
    w.cell? ⟨g, j, none⟩ = some (.int .u8 (l[j].toNat : Int)) ∧ w.frozen? ⟨g, j, none⟩ = false := by
  unfold OwnB at h
  obtain ⟨a, cap, hsh, _⟩ := Bs.of_owns h |>.shape
  simp only [Value.slice.injEq] at hsh
  obtain ⟨_, rfl, _⟩ := hsh
  refine ⟨?_, World.ownsRow.frozenAt h j⟩
  rw [World.ownsRow.cellAt h j (by omega), List.getElem?_map, List.getElem?_eq_getElem hj]
  rfl

theorem make_bytes_some {P : Program} {w : World} {ops : Array Oper} {rest : List Oper} {o : Oper} {a : Act} {Q : Exit → Act → World → Prop}
    (hg : o.guard = none) (l c : Operand) (t : TypeId) (hop : o.op = Op.makeSlice t l c) {e : Nat} (E : Elem P t e 1 1) (hz : ∀ i, P.info? e = some i → i.zero = some (.int .u8 0)) (n : Nat) (hl : a.eval l = .int .i64 n) (hc : a.eval c = .int .i64 n)
    (hn : 0 < n ∧ n ≤ 140737488355328)
    (h : ∀ g c' w' (m : List UInt8), Hid (m = List.replicate n 0) → m.length = n → OwnB e w' w.heap.size (.slice (some ⟨g, 0, none⟩) n c') m → w.heap.size ≤ g → Below w.heap.size w w' → wpList P ops Q rest (a.put o.dst (.slice (some ⟨g, 0, none⟩) n c')) w') : wpList P ops Q (o :: rest) a w := by
  refine make_bytes hg l c t hop E hz n hl hc hn.2 (fun a' c' w' ho hb => ?_)
  obtain ⟨m, hm⟩ : ∃ m, m = List.replicate n (0 : UInt8) := ⟨_, rfl⟩
  have hlen : m.length = n := by rw [hm, List.length_replicate]
  rw [← hm] at ho
  obtain ⟨g, cap, hv, _, _, hg, _⟩ := ho.form (by omega)
  simp only [Value.slice.injEq] at hv
  obtain ⟨rfl, _, rfl⟩ := hv
  exact h g c' w' m hm hlen ho hg hb

end Cam
