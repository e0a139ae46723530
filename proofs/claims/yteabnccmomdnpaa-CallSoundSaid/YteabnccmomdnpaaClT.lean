import Derived.Test.YteabnccmomdnpaaClU
/- call.put: nothing found, nothing to put. -/
namespace Cam
open Go Go.RowKit Go.Proofs

set_option maxRecDepth 100000 in
set_option maxHeartbeats 1600000 in
theorem put_same (w : World) (v : Value) (l : List CT) (who cur amt at0 : Int) (h : Cs w v l) (hl : l.length ≤ 100000) (hr : Rises l who cur) (hex : ∀ i, Found l who cur i → ¬ ∃ h : i < l.length, cmpK l[i] who cur = 0) (ha : ¬ 0 < amt) :
    Calls Try.prog 27 #[v, .agg #[.int .i64 who, .int .i64 cur, .int .i64 amt], .int .i64 at0] w (InsPost w w.heap.size l) := by
  have hbW := (Below.refl w.heap.size w).alloc (Nat.le_refl _) (.cells #[.int .i64 who, .int .i64 cur, .int .i64 amt] 26)
  have hn0 := heap_alloc_new w (.cells #[.int .i64 who, .int .i64 cur, .int .i64 amt] 26)
  have hcl : ∀ j u, #[Value.int .i64 who, .int .i64 cur, .int .i64 amt][j]? = some u → (w.alloc (.cells #[.int .i64 who, .int .i64 cur, .int .i64 amt] 26)).cell? ⟨w.heap.size, j, none⟩ = some u := by
    intro j u hu
    unfold World.cell?
    rw [hn0]
    exact hu
  have hS3 : (w.alloc (.cells #[.int .i64 who, .int .i64 cur, .int .i64 amt] 26)).cell? ⟨w.heap.size, 0, none⟩ = some (.int .i64 who) ∧ (w.alloc (.cells #[.int .i64 who, .int .i64 cur, .int .i64 amt] 26)).cell? ⟨w.heap.size, 1, none⟩ = some (.int .i64 cur) ∧ (w.alloc (.cells #[.int .i64 who, .int .i64 cur, .int .i64 amt] 26)).cell? ⟨w.heap.size, 2, none⟩ = some (.int .i64 amt) ∧ Below w.heap.size w (w.alloc (.cells #[.int .i64 who, .int .i64 cur, .int .i64 amt] 26)) := ⟨hcl 0 _ rfl, hcl 1 _ rfl, hcl 2 _ rfl, hbW⟩
  have HS3 := Lib.hid hS3
  have hv := h.mono hbW
  have HB0 := Lib.hid hbW.size
  obtain ⟨av, cap, rfl, _, _⟩ := h.shape
  obtain ⟨m, hm⟩ : ∃ m, m = l.length := ⟨_, rfl⟩
  have HEX := Lib.hid hex
  have HR := Lib.hid hr
  rw [← hm] at hv ⊢
  have HM := Lib.hid hm
  clear hm hex hr
  clear hcl hn0 hbW hS3 h
  go_enter Try.func27, Try.ntmps27
  go_wp2_with fail
  refine (Clone_any _ _ l hv hl).mono ?_
  clear hv
  rintro e w1 ⟨a, n, c, rfl, ho, hb⟩
  have HN : Hid (n = l.length) := by
    show _ = _
    obtain ⟨_, _, e9, _, _⟩ := ho.rs.shape
    simp only [Value.slice.injEq] at e9
    exact e9.2.1
  have hS1 := keepK3 hb HS3.out
  clear hb HS3
  have HO := Lib.hid ho
  clear ho
  have hd := (⟨hS1.1, hS1.2.1⟩ : _ ∧ _)
  have HS1 := Lib.hid hS1
  clear hS1
  have bs := bsf_any w1 (.slice a n c) l 0 w.heap.size who cur HO.out.rs hl HR.out hd
  clear hd
  go_wp2_with fail
  refine bs.mono ?_
  clear bs
  rintro e w2 ⟨i, hf, rfl, hb⟩
  rw [decide_eq_false (HEX.out i hf)]
  obtain ⟨c0, c1, c2, hbb⟩ := keepK3 hb HS1.out
  have HO2 := Lib.hid ((HO.out.base HB0.out).below hb)
  have HBB := Lib.hid hbb
  clear hb HO HS1 hbb HB0 hf HEX HR
  go_wp2_with fail
  go_ret
  exact ⟨a, n, c, rfl, HO2.out, HBB.out⟩
end Cam
