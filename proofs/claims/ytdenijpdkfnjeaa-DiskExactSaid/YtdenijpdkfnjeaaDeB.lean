import Derived.Test.YtdenijpdkfnjeaaDeA
import Derived.Test.YtdenijpdkfnjeaaDkK
import Derived.Test.YtdenijpdkfnjeaaOpenS
/- DiskExact: acts as arguments; heavy; fill. -/
namespace Cam
open Go Go.RowKit Go.Proofs Go.ChangeShapes Go.WideShapes Go.ChangeAt

structure ActD where
  do_ : Int
  at_ : Int
  b : UInt8
  picks : List Int
/-- an act's four cells -/
def AcOk (w : World) (cs : List Value) (x : ActD) : Prop := ∃ v, cs = [.int .i64 x.do_, .int .i64 x.at_, .int .u8 (x.b.toNat : Int), v] ∧ Is w v x.picks ∧ x.at_ ≤ 9223372036854775807
def Acs (w : World) (v : Value) (ls : List ActD) : Prop := ∃ css : List (List Value), css.length = ls.length ∧ Sl w v 4 ls.length css.flatten ∧ ∀ i (h : i < css.length) (h' : i < ls.length), AcOk w css[i] ls[i]
theorem AcOk.len {w : World} {cs : List Value} {x : ActD} (h : AcOk w cs x) : cs.length = 4 := by
  obtain ⟨v, rfl, _⟩ := h
  rfl
theorem Acs.shape {w : World} {v : Value} {ls : List ActD} (h : Acs w v ls) : ∃ a c, v = .slice a ls.length c ∧ ls.length ≤ c ∧ c ≤ 9223372036854775807 := by
  obtain ⟨css, h1, h2, h3⟩ := h
  exact Sl.shape h2
theorem Acs.at {w : World} {a : Option Addr} {n c : Nat} {ls : List ActD} (h : Acs w (.slice a n c) ls) (hp : 0 < ls.length) :
    ∃ b off, a = some ⟨b, off, none⟩ ∧ b < w.heap.size ∧ ∀ i (hi : i < ls.length), ∃ v, (∀ j u, [.int .i64 ls[i].do_, .int .i64 ls[i].at_, .int .u8 (ls[i].b.toNat : Int), v][j]? = some u → w.cell? ⟨b, off + i * 4 + j, none⟩ = some u) ∧ Is w v ls[i].picks ∧ ls[i].at_ ≤ 9223372036854775807 := by
  obtain ⟨css, h1, h2, h3⟩ := h
  have h5 : ∀ a ∈ css, (id a).length = 4 := fun a ha => by
    obtain ⟨i, hi, rfl⟩ := List.getElem_of_mem ha
    exact (h3 i hi (by omega)).len
  have hfl : css.flatten = flatW id css := by simp [flatW]
  rw [hfl] at h2
  have hl := flatW_length h5
  obtain ⟨b, off, rfl, hb, hc⟩ := Sl.at h2 (by rw [hl]; omega)
  refine ⟨b, off, rfl, hb, fun i hi => ?_⟩
  obtain ⟨v, e, k0, k5⟩ := h3 i (by omega) hi
  refine ⟨v, fun j u hu => ?_, k0, k5⟩
  rw [← e] at hu
  have h9 := flatW_at (f := id) (W := 4) h5 (k := i) (by omega) j u hu
  have h8 := (List.getElem?_eq_some_iff.1 h9)
  obtain ⟨hlt, h8⟩ := h8
  have := hc (i * 4 + j) hlt
  rw [h8, ← Nat.add_assoc] at this
  exact this
theorem acts_of {w : World} : ∀ {css : List (List Value)}, (∀ c ∈ css, ∃ x, AcOk w c x) → ∃ ls : List ActD, css.length = ls.length ∧ ∀ i (h : i < css.length) (h' : i < ls.length), AcOk w css[i] ls[i]
  | [], _ => ⟨[], rfl, fun i h => absurd h (Nat.not_lt_zero _)⟩
  | c :: css, h => by
    obtain ⟨x, hx⟩ := h c (by simp)
    obtain ⟨ls, h1, h2⟩ := acts_of (css := css) (fun c hc => h c (by simp [hc]))
    refine ⟨x :: ls, by simp [h1], fun i a b => ?_⟩
    cases i with
    | zero => exact hx
    | succ i => exact h2 i (by simpa using a) (by simpa using b)
set_option maxRecDepth 100000 in
theorem opens_act : Opens Try.prog 52 (fun w cs => ∃ x, AcOk w cs x) :=
  (Opens.struct (Q := fun i w cs => if i = 2 then ∃ n, cs = [.int .u8 n] ∧ (Lit.int .u8 n).wf = true else if i = 3 then ∃ (v : Value) (l : List Int), cs = [v] ∧ l.length * 8 ≤ 140737488351232 ∧ Sl w v 1 l.length (l.map (.int .i64)) ∧ ∀ n ∈ l, (Lit.int .i64 n).wf = true
      else ∃ n, cs = [.int .i64 n] ∧ (Lit.int .i64 n).wf = true) Try.underlying52 (by
    intro i f hf
    match i, hf with
    | 0, hf => simp at hf; subst hf; exact Opens.int Try.underlying3
    | 1, hf => simp at hf; subst hf; exact Opens.int Try.underlying3
    | 2, hf => simp at hf; subst hf; exact Opens.int Try.underlying5
    | 3, hf => simp at hf; subst hf; exact Opens.ints (bytes := 8) Try.underlying23 Try.underlying3 (by kernel_rfl) (by kernel_rfl)
    | i + 4, hf => simp at hf)).mono fun w cs ⟨hl, hq⟩ => by
    have hc : Try.prog.cellsOf 52 = 4 := by kernel_rfl
    rw [hc] at hl
    match cs, hl with
    | [u0, u1, u2, u3], _ =>
      have h0 := hq 0 _ rfl
      have h1 := hq 1 _ rfl
      have h2 := hq 2 _ rfl
      have h3 := hq 3 _ rfl
      obtain ⟨n0, e0, k0⟩ : ∃ n, [u0] = [Value.int .i64 n] ∧ (Lit.int .i64 n).wf = true := h0
      obtain ⟨n1, e1, k1⟩ : ∃ n, [u1] = [Value.int .i64 n] ∧ (Lit.int .i64 n).wf = true := h1
      obtain ⟨n2, e2, k2⟩ : ∃ n, [u2] = [Value.int .u8 n] ∧ (Lit.int .u8 n).wf = true := h2
      obtain ⟨v3, l3, e3, _, k3, _⟩ : ∃ (v : Value) (l : List Int), [u3] = [v] ∧ l.length * 8 ≤ 140737488351232 ∧ Sl w v 1 l.length (l.map (.int .i64)) ∧ ∀ n ∈ l, (Lit.int .i64 n).wf = true := h3
      obtain ⟨c2, rfl⟩ := u8_of_wf k2
      simp only [List.cons.injEq, and_true] at e0 e1 e2 e3
      subst e0 e1 e2 e3
      exact ⟨⟨n0, n1, c2, l3⟩, _, rfl, k3, (i64_of_wf k1).2⟩
theorem open_dacts {W : World} {v : Value} (h : ArgOk Try.prog W 46 v) : ∃ ls, Acs W v ls := by
  have h1 := h.single Try.underlying46
  obtain ⟨v', css, h2, _, h4, h5⟩ := h.2 _ (Opens.slice Try.underlying46 (size := 4) (by kernel_rfl) rfl opens_act)
  rw [h1] at h2
  cases h2
  obtain ⟨ls, e1, e2⟩ := acts_of (fun c hc => (h5 c hc).2)
  rw [e1] at h4
  exact ⟨ls, css, e1, h4, e2⟩

def HeavyPost (w : World) (ls : List ActD) (e : Ending) (w' : World) : Prop := (∃ b : Bool, e = .returned (.bool b) ∧ (b = false → ls.length ≤ 1200)) ∧ w = w'
set_option maxHeartbeats 800000 in
theorem heavy_any (w : World) (v : Value) (ls : List ActD) (h : Acs w v ls) : Calls Try.prog 21 #[v] w (HeavyPost w ls) := by
  obtain ⟨a, c, rfl, hc, hm⟩ := h.shape
  obtain ⟨N, hN⟩ : ∃ z, z = ls.length := ⟨_, rfl⟩
  rw [← hN] at h hc ⊢
  have HN := Lib.hid hN
  have H := Lib.hid h
  clear hN h
  by_cases h12 : (1200 : Int) < N
  · go_enter Try.func21, Try.ntmps21
    go_wp2_with fail
    go_ret
    exact ⟨⟨true, rfl, fun e => by cases e⟩, rfl⟩
  · have h12' : decide (1200 < N) = false := by simp; omega
    have HL : Hid (ls.length ≤ 1200) := by show _ ≤ _; have := HN.out; omega
    go_enter Try.func21, Try.ntmps21
    go_wp2_with fail
    go_loop [3] (fun i => ∃ k : Nat, k ≤ N ∧ i = .int .i64 k) (fun i => N - (intOf i).toNat)
    case atStart => exact ⟨0, Nat.zero_le _, rfl⟩
    case round =>
      obtain ⟨k, hk, rfl⟩ := hrel
      by_cases hlt : k < N
      · by_cases hk3 : k < 300
        · have hkl : k < ls.length := by have := HN.out; omega
          obtain ⟨b, off, rfl, _, hx⟩ := Acs.at H.out (by omega)
          obtain ⟨vp, hcs, his, _⟩ := hx k hkl
          obtain ⟨ap, cp, hvp, _, _⟩ := his.shape
          obtain ⟨m, hm2⟩ : ∃ z, z = ls[k].picks.length := ⟨_, rfl⟩
          rw [← hm2] at hvp
          subst hvp
          have hcell : w.cell? ⟨b, off + k * 4 + 3, none⟩ = some (.slice ap m cp) := hcs 3 _ rfl
          have hk0 : (0 : Int) ≤ k ∧ (k : Int) < N ∧ (k : Int) < 300 := by omega
          clear hx hcs his hm2
          by_cases h3 : 300 < m
          · have h3' : decide ((300 : Int) < (m : Int)) = true := by simp; omega
            go_wp2_with fail
            go_ret
            exact ⟨⟨true, rfl, fun e => by cases e⟩, rfl⟩
          · have h3' : decide (300 < m) = false := by simp; omega
            go_wp2_with fail
            exact ⟨⟨k + 1, by omega, by push_cast; rfl⟩, by simp [intOf]; omega⟩
        · have hk3' : decide (k < 300) = false := by simp; omega
          have hk3'' : decide ((k : Int) < 300) = false := by simp; omega
          go_wp2_with fail
          go_ret
          exact ⟨⟨false, rfl, fun _ => HL.out⟩, rfl⟩
      · obtain rfl : k = N := by omega
        go_wp2_with fail
        go_ret
        exact ⟨⟨false, rfl, fun _ => HL.out⟩, rfl⟩

/-- the block of an act -/
def fillB (b : UInt8) (i : Nat) : List UInt8 := ((fill64 b).set 0 (UInt8.ofNat i)).set 63 (UInt8.ofNat (i / 7))
theorem fillB_length (b : UInt8) (i : Nat) : (fillB b i).length = 64 := by simp [fillB, fill64_length]
end Cam
