import Derived.Test.YtgeclnjkkjmbaaaWsA
import Derived.Test.YtgeclnjkkjmbaaaWrU
/- what is written is told apart (plain); cambistlaw24.long. -/
namespace Cam
open Go Go.RowKit Go.Proofs

def okI (l : List Int) : Prop := ∀ n ∈ l, -9223372036854775808 ≤ n ∧ n ≤ 9223372036854775807
theorem encI_cut {a b : Int} {r s : List UInt8} (ha : -9223372036854775808 ≤ a ∧ a ≤ 9223372036854775807) (hb : -9223372036854775808 ≤ b ∧ b ≤ 9223372036854775807) (h : encI a ++ r = encI b ++ s) : a = b ∧ r = s := by
  have h1 := rI_enc a r ha
  have h2 := rI_enc b s hb
  rw [h, h2] at h1
  simp only [Prod.mk.injEq, and_true] at h1
  exact ⟨h1.1.symm, h1.2.symm⟩
theorem encIs_cut : ∀ {xs ys : List Int} {r s : List UInt8}, okI xs → okI ys → xs.length = ys.length → encIs xs ++ r = encIs ys ++ s → xs = ys ∧ r = s
  | [], [], r, s, _, _, _, h => ⟨rfl, by simpa [encIs] using h⟩
  | [], _ :: _, _, _, _, _, hl, _ => by simp at hl
  | _ :: _, [], _, _, _, _, hl, _ => by simp at hl
  | x :: xs, y :: ys, r, s, hx, hy, hl, h => by
    have e : ∀ (n : Int) (l : List Int) (t : List UInt8), encIs (n :: l) ++ t = encI n ++ (encIs l ++ t) := fun n l t => by simp [encIs]
    rw [e, e] at h
    obtain ⟨rfl, h2⟩ := encI_cut (hx x (by simp)) (hy y (by simp)) h
    obtain ⟨rfl, h3⟩ := encIs_cut (fun n hn => hx n (by simp [hn])) (fun n hn => hy n (by simp [hn])) (by simpa using hl) h2
    exact ⟨rfl, h3⟩
theorem encIs_inj {xs ys : List Int} (hx : okI xs) (hy : okI ys) (hl : xs.length = ys.length) : encIs xs = encIs ys ↔ xs = ys := by
  constructor
  · intro h
    exact (encIs_cut (r := []) (s := []) hx hy hl (by rw [h])).1
  · rintro rfl
    rfl
theorem encR_cut {α : Type} {f : α → List Int} (hi : ∀ a b, f a = f b → a = b) (hf : ∀ a b, (f a).length = (f b).length) : ∀ {L M : List α} {r s : List UInt8}, (∀ x ∈ L, okI (f x)) → (∀ x ∈ M, okI (f x)) → L.length = M.length → encR f L ++ r = encR f M ++ s → L = M ∧ r = s
  | [], [], r, s, _, _, _, h => ⟨rfl, by simpa [encR] using h⟩
  | [], _ :: _, _, _, _, _, hl, _ => by simp at hl
  | _ :: _, [], _, _, _, _, hl, _ => by simp at hl
  | x :: xs, y :: ys, r, s, hx, hy, hl, h => by
    have e : ∀ (n : α) (l : List α) (t : List UInt8), encR f (n :: l) ++ t = encIs (f n) ++ (encR f l ++ t) := fun n l t => by simp [encR]
    rw [e, e] at h
    obtain ⟨h1, h2⟩ := encIs_cut (hx x (by simp)) (hy y (by simp)) (hf x y) h
    obtain ⟨rfl, h3⟩ := encR_cut hi hf (fun n hn => hx n (by simp [hn])) (fun n hn => hy n (by simp [hn])) (by simpa using hl) h2
    exact ⟨by rw [hi x y h1], h3⟩
theorem lw_cut {α : Type} {f : α → List Int} (hi : ∀ a b, f a = f b → a = b) (hf : ∀ a b, (f a).length = (f b).length) {L M : List α} {r s : List UInt8} (hL : ∀ x ∈ L, okI (f x)) (hM : ∀ x ∈ M, okI (f x)) (h1 : L.length ≤ 1024) (h2 : M.length ≤ 1024) (h : lw f L ++ r = lw f M ++ s) : L = M ∧ r = s := by
  unfold lw at h
  rw [if_neg (by omega), if_neg (by omega), List.append_assoc, List.append_assoc] at h
  have hw : ∀ {n : Nat}, n ≤ 1024 → okI [(n : Int)] := fun hn m hm => by rw [List.mem_singleton] at hm; omega
  obtain ⟨h3, h4⟩ := encIs_cut (hw h1) (hw h2) rfl h
  simp only [List.cons.injEq, and_true] at h3
  exact encR_cut hi hf hL hM (by omega) h4
theorem encRep_inj {xc xn xa yc yn ya : Int} {D1 D2 : List DT} {F1 F2 : List FT} (hx : okI [xc, xn, xa]) (hy : okI [yc, yn, ya]) (hd1 : ∀ x ∈ D1, okI x.ints) (hd2 : ∀ x ∈ D2, okI x.ints) (hf1 : ∀ x ∈ F1, okI x.ints) (hf2 : ∀ x ∈ F2, okI x.ints)
    (h1 : repW D1 F1 = false) (h2 : repW D2 F2 = false) : encRep xc xn xa D1 F1 = encRep yc yn ya D2 F2 ↔ xc = yc ∧ xn = yn ∧ xa = ya ∧ D1 = D2 ∧ F1 = F2 := by
  unfold repW at h1 h2
  simp only [Bool.or_eq_false_iff, decide_eq_false_iff_not] at h1 h2
  constructor
  · intro h
    unfold encRep at h
    obtain ⟨h3, h4⟩ := encIs_cut hx hy rfl h
    obtain ⟨rfl, h5⟩ := lw_cut (fun a b => DT.ints_inj.1) (fun _ _ => rfl) hd1 hd2 (by omega) (by omega) h4
    obtain ⟨rfl, _⟩ := lw_cut (f := FT.ints) (r := []) (s := []) (fun a b => FT.ints_inj.1) (fun _ _ => rfl) hf1 hf2 (by omega) (by omega) (by rw [h5])
    simp only [List.cons.injEq, and_true] at h3
    exact ⟨h3.1, h3.2.1, h3.2.2, rfl, rfl⟩
  · rintro ⟨rfl, rfl, rfl, rfl, rfl⟩
    rfl

/-- long? -/
def repL (D : List DT) (F : List FT) : Bool := decide (1200 < D.length) || decide (1200 < F.length)
set_option maxRecDepth 100000 in
theorem long_any (w : World) (xc xn xa : Int) (vd vf : Value) (D : List DT) (F : List FT) (hd : Rs DT.vs 3 w vd D) (hf : Rs FT.vs 8 w vf F) :
    Calls Try.prog 17 #[.agg #[.int .i64 xc, .int .i64 xn, .int .i64 xa, vd, vf]] w fun e w' => e = .returned (.bool (repL D F)) ∧ Below w.heap.size w w' := by
  obtain ⟨a1, c1, rfl, hc1, hm1⟩ := hd.shape
  obtain ⟨a2, c2, rfl, hc2, hm2⟩ := hf.shape
  have HB := Lib.hid ((Below.refl w.heap.size w).alloc (Nat.le_refl _) (.cells #[.int .i64 xc, .int .i64 xn, .int .i64 xa, .slice a1 D.length c1, .slice a2 F.length c2] 41))
  obtain ⟨d, hd0⟩ : ∃ d, d = repL D F := ⟨_, rfl⟩
  rw [← hd0]
  have HD := Lib.hid hd0
  clear hd0 hd hf
  by_cases h1 : 1200 < D.length
  · have HT : Hid (d = true) := by show _ = _; rw [HD.out]; simp [repL, h1]
    go_enter Try.func17, Try.ntmps17
    go_wp2_with fail
    go_ret
    exact ⟨by rw [HT.out]; rfl, HB.out⟩
  · by_cases h2 : 1200 < F.length
    · have HT : Hid (d = true) := by show _ = _; rw [HD.out]; simp [repL, h2]
      go_enter Try.func17, Try.ntmps17
      go_wp2_with fail
      go_ret
      exact ⟨by rw [HT.out]; simp; omega, HB.out⟩
    · have HT : Hid (d = false) := by show _ = _; rw [HD.out]; simp [repL, h1, h2]
      go_enter Try.func17, Try.ntmps17
      go_wp2_with fail
      go_ret
      exact ⟨by rw [HT.out]; simp; omega, HB.out⟩

end Cam
