import Derived.Test.YtgeclnjkkjmbaaaGreatVf
import Derived.OwnWalk
/- Lists of zero rows: what they are written as. No program in sight. -/
namespace Cam
open Go Go.RowKit Go.Proofs

theorem encI_zero : encI 0 = [0] := by
  unfold encI
  rw [show zig 0 = 0 from by simp [zig], venc]
  simp
theorem encIs_zeros : ∀ {L : List Int}, (∀ n ∈ L, n = 0) → (encIs L).length = L.length
  | [], _ => rfl
  | n :: L, h => by
    have h0 := h n (by simp)
    subst h0
    have h1 := encIs_zeros (L := L) (fun n hn => h n (by simp [hn]))
    show (encI 0 ++ encIs L).length = _
    rw [encI_zero, List.length_append, h1]
    simp
    omega
theorem made_rows {α : Type} (enc : α → List Value) (x : α) (K n : Nat) (hK : (enc x).length = K) (h0 : 0 < K) : (madeCells (enc x).toArray (n * K)).toList = flatW enc (List.replicate n x) := by
  have hl : (flatW enc (List.replicate n x)).length = n * K := by
    rw [flatW_length (W := K) (fun a ha => by rw [List.eq_of_mem_replicate ha]; exact hK), List.length_replicate]
  apply List.ext_getElem?
  intro i
  by_cases hi : i < n * K
  · have hq : i / K < n := Nat.div_lt_of_lt_mul (by rwa [Nat.mul_comm] at hi)
    have hr : i % K < (enc x).length := by rw [hK]; exact Nat.mod_lt _ h0
    have h1 := flatW_at (f := enc) (W := K) (L := List.replicate n x) (fun a ha => by rw [List.eq_of_mem_replicate ha]; exact hK) (k := i / K) (by simpa using hq) (i % K) ((enc x)[i % K]) (by simp [hr])
    have e : i / K * K + i % K = i := by rw [Nat.mul_comm]; exact Nat.div_add_mod i K
    rw [e] at h1
    rw [h1]
    simp [madeCells, hi, hK]
    rw [List.getElem?_eq_getElem hr]
    rfl
  · rw [List.getElem?_eq_none (l := flatW enc (List.replicate n x)) (by rw [hl]; omega), List.getElem?_eq_none (by simp [size_madeCells]; omega)]
def dZ : DT := ⟨0, 0, 0⟩
def fZ : FT := ⟨0, 0, 0, 0, 0, 0, 0, 0⟩
def pZ : PoT := ⟨0, 0, 0, 0⟩
/-- a state that has no list but of m positions -/
def sZ (m : Nat) : StT := ⟨0, 0, 0, [], [], [], 0, [], List.replicate m pZ, 0, [], [], [], [], []⟩
theorem encR_zero {α : Type} (f : α → List Int) (x : α) (h : ∀ n ∈ f x, n = 0) : ∀ n, (encR f (List.replicate n x)).length = n * (f x).length
  | 0 => by simp [encR]
  | n + 1 => by
    have h1 := encR_zero f x h n
    have h2 := encIs_zeros h
    rw [List.replicate_succ]
    unfold encR at h1 ⊢
    simp only [List.map_cons, List.flatten_cons, List.length_append]
    rw [h1, h2, Nat.succ_mul, Nat.add_comm]
theorem encG_zero {α : Type} (b : α → List UInt8) (x : α) : ∀ n, (encG b (List.replicate n x)).length = n * (b x).length
  | 0 => by simp [encG]
  | n + 1 => by
    have h1 := encG_zero b x n
    rw [List.replicate_succ]
    unfold encG at h1 ⊢
    simp only [List.map_cons, List.flatten_cons, List.length_append]
    rw [h1, Nat.succ_mul, Nat.add_comm]
theorem rep0 (m : Nat) (hm : m ≤ 1024) : (encRep 0 0 0 (List.replicate m dZ) []).length ≤ 65536 ∧ (encRep 0 0 0 [] (List.replicate m fZ)).length ≤ 65536 := by
  have a1 := encR_zero DT.ints dZ (by simp [DT.ints, dZ]) m
  have a2 := encR_zero FT.ints fZ (by simp [FT.ints, fZ]) m
  have e1 : (DT.ints dZ).length = 3 := rfl
  have e2 : (FT.ints fZ).length = 8 := rfl
  have b1 := encIs_length [0, 0, 0] (by simp)
  have b2 := encIs_length [(m : Int)] (by intro n hn; rw [List.mem_singleton] at hn; omega)
  have b3 := encIs_length [((0 : Nat) : Int)] (by simp)
  rw [e1] at a1
  rw [e2] at a2
  simp only [List.length_cons, List.length_nil] at b1 b2 b3
  constructor
  · unfold encRep lw
    rw [if_neg (by simp; try omega), if_neg (by simp; try omega)]
    simp only [List.length_append, List.length_replicate, List.length_nil, a1]
    simp only [encR, List.map_nil, List.flatten_nil, List.length_nil]
    omega
  · unfold encRep lw
    rw [if_neg (by simp; try omega), if_neg (by simp; try omega)]
    simp only [List.length_append, List.length_replicate, List.length_nil, a2]
    simp only [encR, List.map_nil, List.flatten_nil, List.length_nil]
    omega
theorem rows0 {α : Type} {f : α → List Int} {x : α} (h : okI (f x)) (m : Nat) : ∀ y ∈ List.replicate m x, okI (f y) := fun y hy => by rw [List.eq_of_mem_replicate hy]; exact h
theorem sZ_ok (m : Nat) : (sZ m).ok where
  clock := by intro n hn; simp [sZ] at hn; omega
  M := fun x hx => by cases hx
  I := fun x hx => by cases hx
  A := fun x hx => by cases hx
  nx := by intro n hn; simp [sZ] at hn; omega
  T := fun x hx => by cases hx
  P := rows0 (by intro n hn; simp [PoT.ints, pZ] at hn; omega) m
  la := by intro n hn; simp [sZ] at hn; omega
  B := fun x hx => by cases hx
  G := fun x hx => by cases hx
  C := fun x hx => by cases hx
  D := fun x hx => by cases hx
  S := fun x hx => by cases hx
theorem sZ_bad (m : Nat) : (sZ m).bad = decide (1024 < m) := by
  unfold StT.bad sZ rollW bookW seaB anyW
  simp
theorem sZ_len (m : Nat) (hm : m ≤ 1024) : (sZ m).bytes.length ≤ 65536 := by
  have a1 := encG_zero PoT.bytes pZ m
  have hm' : ¬ 1024 < m := by omega
  have e1 : (PoT.bytes pZ).length = 4 := encIs_zeros (by simp [PoT.ints, pZ])
  have b1 := encIs_length [0, 0, 0] (by simp)
  have b2 := encIs_length [(m : Int)] (by intro n hn; rw [List.mem_singleton] at hn; omega)
  have b3 := encIs_length [((0 : Nat) : Int)] (by simp)
  have b4 := encIs_length [0] (by simp)
  rw [e1] at a1
  simp only [List.length_cons, List.length_nil] at b1 b2 b3 b4
  unfold StT.bytes sZ rollB bookB lwG
  simp only [List.length_replicate, List.length_nil, hm', if_false, Nat.not_lt_zero]
  simp only [List.length_append, a1]
  simp only [encG, List.map_nil, List.flatten_nil, List.length_nil]
  omega
end Cam
