import Derived.Test.YtlnclfiiplpaiaaJnQ
import Derived.Test.YtlnclfiiplpaiaaJnX
import Derived.Test.YtlnclfiiplpaiaaJnF2
import Derived.Test.YtlnclfiiplpaiaaJnRU
/- What a life leaves, wherever the power goes; found.  -/
namespace Cam
open Go Go.RowKit Go.Proofs

/-- on, armed or not; what is now is what is synced with what was written since -/
structure OnA (D : DK) : Prop where
  off : D.off = false
  full : D.now = sets D.syn D.op
theorem OnD.a {D : DK} (h : OnD D) : OnA D := ⟨h.off, h.full⟩
theorem OnA.next {D : DK} (h : OnA D) (a : Int) : OnA { D with arm := a } := ⟨h.off, h.full⟩
theorem OnA.put {D : DK} (h : OnA D) (k : Nat) (b : List UInt8) : OnA (dPut D k b) := ⟨h.off, by
  show D.now.set k b = sets D.syn (D.op ++ [(k, b)])
  rw [sets_snoc, ← h.full]⟩
theorem OnA.puts {D : DK} (h : OnA D) (k : Nat) (L : List (List UInt8)) : OnA (dPuts D k L) := ⟨h.off, by
  show Cam.puts D.now k L = sets D.syn (D.op ++ idxs k L)
  rw [sets_idxs, ← h.full]⟩
theorem OnA.laid {D : DK} (h : OnA D) (N : List (List UInt8)) : OnA (dLaid D N) := ⟨h.off, rfl⟩
theorem dArm_on {D : DK} (h : OnA D) (m : Int) : ∃ a, dArm D m = { D with arm := a } := ⟨max m 0, by unfold dArm; rw [if_neg (by rw [h.off]; decide)]⟩
theorem dLast_cases (D : DK) : (∃ a, dLast D = (false, { D with arm := a })) ∨ ∃ a, dLast D = (true, { D with arm := a, off := true, torn := true }) := by
  unfold dLast
  by_cases h : D.arm = 0
  · exact .inl ⟨D.arm, by rw [if_pos h]⟩
  · rw [if_neg h]
    by_cases h2 : 1 < D.arm
    · exact .inl ⟨D.arm - 1, by rw [if_pos h2]⟩
    · exact .inr ⟨D.arm - 1, by rw [if_neg h2]⟩
theorem dWrites_arm : ∀ (L : List (List UInt8)) {D : DK} (_ : OnA D) (k : Nat), (∃ a, dWrites D k L = (0, { dPuts D k L with arm := a })) ∨
    ∃ j D', j ≤ L.length ∧ dWrites D k L = (7, D') ∧ D'.off = true ∧ D'.syn = D.syn ∧ D'.op = D.op ++ idxs k (L.take j)
  | [], D, h, k => .inl ⟨D.arm, by rw [dWrites]; simp [dPuts, puts, idxs]⟩
  | b :: L, D, h, k => by
    have e0 : dWrite D k b = (if (dLast (dPut D k b)).1 = true then 7 else 0, (dLast (dPut D k b)).2) := by unfold dWrite; rw [if_neg (by rw [h.off]; decide)]
    rcases dLast_cases (dPut D k b) with ⟨a, e⟩ | ⟨a, e⟩
    · rw [e] at e0
      rw [dWrites_ok (by rw [e0]; rfl), e0]
      rcases dWrites_arm L ((h.put k b).next a) (k + 1) with ⟨a2, e2⟩ | ⟨j, D', hj, e2, h1, h2, h3⟩
      · refine .inl ⟨a2, ?_⟩
        simp only
        rw [e2]
        simp [dPuts, dPut, puts, idxs]
      · refine .inr ⟨j + 1, D', by simp; omega, ?_, h1, h2, ?_⟩
        · simp only
          rw [e2]
        · rw [h3]
          simp [dPut, idxs]
    · rw [e] at e0
      have e5 : (dWrite D k b).1 ≠ 0 := by rw [e0]; simp
      refine .inr ⟨1, { dPut D k b with arm := a, off := true, torn := true }, by simp, ?_, rfl, rfl, ?_⟩
      · rw [dWrites_stop e5, e0]
        rfl
      · simp [dPut, idxs]
theorem dSync_arm {D : DK} (h : OnA D) : (∃ a, dSync D = (0, { D with syn := D.now, op := [], arm := a })) ∨ ∃ D', dSync D = (7, D') ∧ D'.off = true ∧ D'.syn = D.syn ∧ D'.op = D.op := by
  have e0 : dSync D = if (dLast D).1 = true then (7, (dLast D).2) else (0, { (dLast D).2 with syn := sets D.syn D.op, op := [] }) := by unfold dSync; rw [if_neg (by rw [h.off]; decide)]
  rcases dLast_cases D with ⟨a, e⟩ | ⟨a, e⟩
  · rw [e, if_neg (by simp), ← h.full] at e0
    exact .inl ⟨a, e0⟩
  · rw [e, if_pos rfl] at e0
    exact .inr ⟨_, e0, rfl, rfl, rfl⟩
theorem dPhase_arm {D : DK} (h : OnA D) (k : Nat) (L : List (List UInt8)) : (∃ a, dPhase D k L = (0, { dLaid D (puts D.now k L) with arm := a })) ∨
    ∃ j D', j ≤ L.length ∧ dPhase D k L = (7, D') ∧ D'.off = true ∧ D'.syn = D.syn ∧ D'.op = D.op ++ idxs k (L.take j) := by
  unfold dPhase
  rcases dWrites_arm L h k with ⟨a, e⟩ | ⟨j, D', hj, e, h1, h2, h3⟩
  · rw [e, if_pos rfl]
    simp only
    rcases dSync_arm ((h.puts k L).next a) with ⟨a2, e2⟩ | ⟨D', e2, h1, h2, h3⟩
    · exact .inl ⟨a2, by rw [e2]; rfl⟩
    · exact .inr ⟨L.length, D', Nat.le_refl _, e2, h1, h2, by rw [h3, List.take_length]; rfl⟩
  · rw [e, if_neg (by simp)]
    exact .inr ⟨j, D', hj, rfl, h1, h2, h3⟩
theorem dPhases_arm {D : DK} (h : OnA D) (ho : D.op = []) (k : Nat) (Z R : List (List UInt8)) : (∃ a, dPhases D k [Z, R] = (0, { dLaid D (puts (puts D.now k Z) k R) with arm := a })) ∨
    (∃ j D', j ≤ Z.length ∧ dPhases D k [Z, R] = (7, D') ∧ D'.off = true ∧ D'.syn = D.now ∧ D'.op = idxs k (Z.take j)) ∨
    ∃ j D', j ≤ R.length ∧ dPhases D k [Z, R] = (7, D') ∧ D'.off = true ∧ D'.syn = puts D.now k Z ∧ D'.op = idxs k (R.take j) := by
  have hs : D.syn = D.now := by rw [h.full, ho]; rfl
  rcases dPhase_arm h k Z with ⟨a, e⟩ | ⟨j, D', hj, e, h1, h2, h3⟩
  · rw [dPhases_ok (by rw [e]), e]
    simp only
    rcases dPhase_arm ((h.laid (puts D.now k Z)).next a) k R with ⟨a2, e2⟩ | ⟨j, D', hj, e2, h1, h2, h3⟩
    · refine .inl ⟨a2, ?_⟩
      rw [dPhases_ok (by rw [e2]), e2, dPhases]
      rfl
    · refine .inr (.inr ⟨j, D', hj, ?_, h1, h2, ?_⟩)
      · rw [dPhases_stop (by rw [e2]; simp), e2]
      · rw [h3]; rfl
  · refine .inr (.inl ⟨j, D', hj, ?_, h1, h2.trans hs, ?_⟩)
    · rw [dPhases_stop (by rw [e]; simp), e]
    · rw [h3, ho]; rfl
/-- the blocks behind a crash -/
def crashN (D : DK) (picks : List Int) : List (List UInt8) := crashTo D.op picks D.syn D.op.length
theorem crash_start (D : DK) (picks : List Int) : dStart (dCrash D picks) = { syn := crashN D picks, now := crashN D picks, op := [], off := false, arm := 0, torn := false } := by
  unfold dStart dCrash
  rw [if_neg (by simp)]
  rfl
theorem crash_onD (D : DK) (picks : List Int) : OnD (dStart (dCrash D picks)) ∧ (dStart (dCrash D picks)).op = [] ∧ (dStart (dCrash D picks)).now = crashN D picks := by
  rw [crash_start]
  exact ⟨⟨rfl, rfl, rfl, rfl⟩, rfl, rfl⟩
end Cam
namespace Cam
open Go Go.RowKit Go.Proofs

theorem crashTo_length : ∀ (o : List (Nat × List UInt8)) (picks : List Int) (S : List (List UInt8)) (j : Nat), (crashTo o picks S j).length = S.length
  | _, _, _, 0 => rfl
  | o, picks, S, j + 1 => by
    rw [crashTo]
    split
    · rw [List.length_set, crashTo_length]
    · rw [crashTo_length]
theorem crashTo_get2 {at_ : Nat} {L S : List (List UInt8)} (h : at_ + L.length ≤ S.length) (picks : List Int) : ∀ j, j ≤ L.length → ∀ i : Nat, (crashTo (idxs at_ L) picks S j)[i]? = if at_ ≤ i ∧ i < at_ + j then some (mixB (pickN picks (i - at_)) (S.getD i []) (L.getD (i - at_) [])) else S[i]?
  | 0, _, i => by rw [crashTo, if_neg (by omega)]
  | j + 1, hj, i => by
    have ih := crashTo_get2 h picks j (by omega)
    have e3 : (idxs at_ L)[j]? = some (at_ + j, L[j]) := by rw [idxs_get, List.getElem?_eq_getElem (by omega)]; rfl
    have e4 : (crashTo (idxs at_ L) picks S j).getD (at_ + j) [] = S.getD (at_ + j) [] := by
      rw [List.getD_eq_getElem?_getD, ih, if_neg (by omega), ← List.getD_eq_getElem?_getD]
    rw [crashTo, e3]
    show ((crashTo (idxs at_ L) picks S j).set (at_ + j) (mixB (pickN picks j) ((crashTo (idxs at_ L) picks S j).getD (at_ + j) []) L[j]))[i]? = _
    rw [List.getElem?_set, e4]
    by_cases hi : at_ + j = i
    · subst hi
      rw [if_pos rfl, if_pos (by rw [crashTo_length]; omega), if_pos (by omega), show at_ + j - at_ = j by omega, List.getD_eq_getElem?_getD (l := L), List.getElem?_eq_getElem (show j < L.length by omega)]
      rfl
    · rw [if_neg hi, ih]
      by_cases h2 : at_ ≤ i ∧ i < at_ + j
      · rw [if_pos h2, if_pos (by omega)]
      · rw [if_neg h2, if_neg (by omega)]
/-- the rest of a disk -/
theorem crashTo_other {at_ fr m : Nat} {L S : List (List UInt8)} (h : at_ + L.length ≤ S.length) (picks : List Int) (j : Nat) (hj : j ≤ L.length) (hd : at_ + j ≤ fr ∨ fr + m ≤ at_) : halfOf (crashTo (idxs at_ L) picks S j) fr m = halfOf S fr m := by
  apply List.ext_getElem?
  intro i
  rw [halfOf_get, halfOf_get]
  by_cases h1 : i < m
  · rw [if_pos h1, if_pos h1, crashTo_get2 h picks j hj, if_neg (by omega)]
  · rw [if_neg h1, if_neg h1]

/-- blocks whose beginnings were zeroed: what stands there stood there -/
theorem zero_stands {L L' : List (List UInt8)} (hl : L'.length = L.length) (hm : ∀ (i : Nat) (b : List UInt8), L[i]? = some b → ∃ p, p ≤ 64 ∧ L'[i]? = some (mixB p b zero64)) (h : stands L') : stands L ∧ rowG L' = rowG L ∧ rowK L' = rowK L := by
  obtain ⟨h1, h2, h3, h4, h5, h6⟩ := h
  have hsame : ∀ i, i < rowN L' → L'[i]? = L[i]? := fun i hi => by
    have hi' : i < L'.length := by omega
    obtain ⟨b, hb⟩ : ∃ b, L[i]? = some b := ⟨_, List.getElem?_eq_getElem (by omega)⟩
    obtain ⟨p, hp, e⟩ := hm i b hb
    have hy := h5 (mixB p b zero64) (by
      refine List.mem_of_getElem? (i := i) ?_
      rw [List.getElem?_take_of_lt hi, e])
    have h0 := hy.1
    by_cases hp0 : p = 0
    · subst hp0
      rw [e, hb]
      simp [mixB]
    · exfalso
      have e0 : (mixB p b zero64)[0]? = some 0 := by
        unfold mixB
        rw [List.getElem?_append_left (by rw [List.length_take, zero64_length]; omega), List.getElem?_take_of_lt (by omega)]
        rfl
      rw [e0] at h0
      exact markB_ne _ (Option.some.inj h0).symm
  have hN := rowN_pos L'
  have hhd : L'.headD [] = L.headD [] := by
    have := hsame 0 (by omega)
    cases L' with
    | nil => exact absurd rfl h1
    | cons a r =>
      cases L with
      | nil => simp at hl
      | cons b q => simpa using this
  have hrn : rowN L = rowN L' := by unfold rowN; rw [hhd]
  have htk : L'.take (rowN L') = L.take (rowN L') := by
    apply List.ext_getElem?
    intro i
    by_cases hi : i < rowN L'
    · rw [List.getElem?_take_of_lt hi, List.getElem?_take_of_lt hi, hsame i hi]
    · rw [List.getElem?_take_eq_none (by omega), List.getElem?_take_eq_none (by omega)]
  have hby : rowBy L' = rowBy L := by unfold rowBy; rw [htk, hrn]
  refine ⟨⟨fun e => ?_, by rw [← hhd]; exact h2, by rw [← hhd]; exact h3, by rw [hrn, ← hl]; exact h4, ?_, by rw [← hby]; exact h6⟩, by unfold rowG; rw [hby], by unfold rowK; rw [hby]⟩
  · rw [e] at hl
    exact h1 (List.length_eq_zero_iff.1 hl)
  · rw [hrn, ← htk, ← hhd]
    exact h5
theorem zero_gen {L L' : List (List UInt8)} (hl : L'.length = L.length) (hm : ∀ (i : Nat) (b : List UInt8), L[i]? = some b → ∃ p, p ≤ 64 ∧ L'[i]? = some (mixB p b zero64)) : (readL L').gen = 0 ∨ (readL L').gen = (readL L).gen := by
  by_cases h : stands L' ∧ 1 ≤ rowG L' ∧ rowK L' = 0
  · obtain ⟨h1, h2, h3⟩ := zero_stands hl hm h.1
    right
    unfold readL
    rw [if_pos h, if_pos ⟨h1, by rw [← h2]; exact h.2.1, by rw [← h3]; exact h.2.2⟩]
    exact h2
  · left
    unfold readL
    rw [if_neg h]
/-- the other half's wreck changes nothing -/
theorem openT_same {n : Nat} {N N' : List (List UInt8)} (hold : halfOf N' (openT n N).from_ (n / 2) = halfOf N (openT n N).from_ (n / 2))
    (hg : (readL (halfOf N' (n / 2 - (openT n N).from_) (n / 2))).gen = 0 ∨ (readL (halfOf N' (n / 2 - (openT n N).from_) (n / 2))).gen = (readL (halfOf N (n / 2 - (openT n N).from_) (n / 2))).gen) : openT n N' = openT n N := by
  have h0 := openT_is (n := n) (N := N) rfl rfl
  by_cases hc : 0 < (readL (halfOf N 0 (n / 2))).gen ∧ (readL (halfOf N (n / 2) (n / 2))).gen ≤ (readL (halfOf N 0 (n / 2))).gen
  · rw [if_pos hc] at h0
    rw [h0] at hold hg ⊢
    simp only [Nat.sub_zero] at hold hg
    rw [openT_is (n := n) (N := N') rfl rfl, hold, if_pos (by rcases hg with e | e <;> omega)]
  · rw [if_neg hc] at h0
    rw [h0] at hold hg ⊢
    simp only [Nat.sub_self] at hold hg
    rw [openT_is (n := n) (N := N') rfl rfl, hold, if_neg (by rcases hg with e | e <;> omega)]
/-- the power went while the half was zeroed -/
theorem openT_zeroing {n : Nat} {N : List (List UInt8)} (hN : N.length = n) (picks : List Int) (j : Nat) (hj : j ≤ n / 2) :
    openT n (crashTo (idxs (n / 2 - (openT n N).from_) ((List.replicate (n / 2) zero64).take j)) picks N j) = openT n N := by
  obtain ⟨hfr, _, _⟩ := openT_half n N
  obtain ⟨fr, hfr2⟩ : ∃ z, z = (openT n N).from_ := ⟨_, rfl⟩
  rw [← hfr2] at hfr ⊢
  have hlen : ((List.replicate (n / 2) zero64).take j).length = j := by simp; omega
  have hget := crashTo_get2 (at_ := n / 2 - fr) (L := (List.replicate (n / 2) zero64).take j) (S := N) (by omega) picks j (by omega)
  refine openT_same ?_ ?_
  · rw [← hfr2]
    exact crashTo_other (by omega) picks j (by omega) (by omega)
  · rw [← hfr2]
    refine zero_gen ?_ (fun i b hb => ?_)
    · unfold halfOf
      rw [List.length_take, List.length_drop, crashTo_length, List.length_take, List.length_drop]
    · rw [halfOf_get] at hb ⊢
      by_cases hi : i < n / 2
      · rw [if_pos hi] at hb ⊢
        rw [hget]
        by_cases h2 : n / 2 - fr ≤ n / 2 - fr + i ∧ n / 2 - fr + i < n / 2 - fr + j
        · rw [if_pos h2]
          refine ⟨_, pickN_le picks i, ?_⟩
          rw [show n / 2 - fr + i - (n / 2 - fr) = i by omega, List.getD_eq_getElem?_getD, hb, List.getD_eq_getElem?_getD, List.getElem?_take_of_lt (by omega), List.getElem?_replicate, if_pos hi]
          rfl
        · rw [if_neg h2]
          exact ⟨0, by omega, by rw [hb]; simp [mixB]⟩
      · rw [if_neg hi] at hb
        cases hb
theorem mixB_zero (b : List UInt8) : mixB 0 zero64 b = zero64 := by simp [mixB]
/-- a beginning of writes, as all of them of which the others were lost -/
theorem mixL_take (pk : Nat → Nat) (L : List (List UInt8)) (j : Nat) (hj : j ≤ L.length) : mixL pk (L.take j) ++ List.replicate (L.length - j) zero64 = mixL (fun i => if i < j then pk i else 0) L := by
  apply List.ext_getElem?
  intro i
  rw [List.getElem?_append, mixL_length, List.length_take, mixL_get, mixL_get, List.getElem?_replicate, List.getElem?_take]
  by_cases h1 : i < j
  · rw [if_pos (by omega), if_pos h1, if_pos h1]
  · rw [if_neg (by omega), if_neg h1]
    by_cases h2 : i < L.length
    · rw [if_pos (by omega), List.getElem?_eq_getElem h2]
      simp [mixB_zero]
    · rw [if_neg (by omega), List.getElem?_eq_none (by omega)]
      rfl
/-- the power went while the new rows were written -/
theorem openT_rowing {n : Nat} {N : List (List UInt8)} {s : List UInt8} (hN : N.length = n) (hg2 : (openT n N).half.gen + 1 ≤ 1099511627776) (hs : s.length ≤ 65536) (hfit : (rowsOf ((openT n N).half.gen + 1) 0 s).length ≤ n / 2) (picks : List Int) (j : Nat) (hj : j ≤ (rowsOf ((openT n N).half.gen + 1) 0 s).length) :
    openT n (crashTo (idxs (n / 2 - (openT n N).from_) ((rowsOf ((openT n N).half.gen + 1) 0 s).take j)) picks (puts N (n / 2 - (openT n N).from_) (List.replicate (n / 2) zero64)) j) = openT n N ∨
    openT n (crashTo (idxs (n / 2 - (openT n N).from_) ((rowsOf ((openT n N).half.gen + 1) 0 s).take j)) picks (puts N (n / 2 - (openT n N).from_) (List.replicate (n / 2) zero64)) j) = ⟨n / 2 - (openT n N).from_, ⟨(openT n N).half.gen + 1, s, [], (rowsOf ((openT n N).half.gen + 1) 0 s).length⟩, false⟩ := by
  obtain ⟨hfr, hhf, _⟩ := openT_half n N
  have hgg : (readL (halfOf N (openT n N).from_ (n / 2))).gen = (openT n N).half.gen := by rw [← hhf]
  obtain ⟨g, hg⟩ : ∃ z, z = (openT n N).half.gen := ⟨_, rfl⟩
  rw [← hg] at hg2 hfit hj hgg ⊢
  obtain ⟨fr, hfr2⟩ : ∃ z, z = (openT n N).from_ := ⟨_, rfl⟩
  rw [← hfr2] at hfr hgg ⊢
  obtain ⟨R, hR⟩ : ∃ z, z = rowsOf (g + 1) 0 s := ⟨_, rfl⟩
  rw [← hR] at hfit hj ⊢
  obtain ⟨ot, hot⟩ : ∃ z, z = n / 2 - fr := ⟨_, rfl⟩
  rw [← hot]
  obtain ⟨S, hS⟩ : ∃ z, z = puts N ot (List.replicate (n / 2) zero64) := ⟨_, rfl⟩
  rw [← hS]
  have hSl : S.length = n := by rw [hS, puts_length, hN]
  have hSz : ∀ i, i < n / 2 → S[ot + i]? = some zero64 := fun i hi => by
    rw [hS, puts_get _ _ _ _ (by rw [List.length_replicate]; omega), List.length_replicate, if_pos (by omega), List.getElem?_replicate, if_pos (by omega)]
  have hlen : (R.take j).length = j := by rw [List.length_take]; omega
  have hX : crashTo (idxs ot (R.take j)) picks S j = puts S ot (mixL (pickN picks) (R.take j)) := by
    have h := crashTo_idxs (at_ := ot) (L := R.take j) (S := S) (fun i hi => hSz i (by omega)) (by omega) picks j (by omega)
    rw [List.take_take, Nat.min_self] at h
    exact h
  have hhalf : halfOf (puts S ot (mixL (pickN picks) (R.take j))) ot (n / 2) = mixL (fun i => if i < j then pickN picks i else 0) R ++ List.replicate (n / 2 - R.length) zero64 := by
    rw [← mixL_take _ _ _ hj]
    apply List.ext_getElem?
    intro i
    rw [halfOf_get, puts_get _ _ _ _ (by rw [mixL_length]; omega), mixL_length, hlen]
    simp only [List.getElem?_append, List.getElem?_replicate, List.length_append, List.length_replicate, mixL_length, hlen]
    by_cases h1 : i < n / 2
    · rw [if_pos h1]
      by_cases h2 : i < j
      · rw [if_pos (by omega), if_pos (by omega), if_pos h2, show ot + i - ot = i by omega]
      · rw [if_neg (by omega), hSz i h1]
        by_cases h3 : i < j + (R.length - j)
        · rw [if_pos h3, if_neg h2, if_pos (by omega)]
        · rw [if_neg h3, if_pos (by omega)]
    · rw [if_neg h1, if_neg (by omega), if_neg (by omega)]
  have hother : halfOf (puts S ot (mixL (pickN picks) (R.take j))) fr (n / 2) = halfOf N fr (n / 2) := by
    rw [puts_other (by rw [mixL_length]; omega) (by rw [mixL_length]; omega), hS, puts_other (by rw [List.length_replicate]; omega) (by rw [List.length_replicate]; omega)]
  rw [hX]
  by_cases hst : stands (halfOf (puts S ot (mixL (pickN picks) (R.take j))) ot (n / 2))
  · right
    have hall : ∀ i, i < R.length → (fun i => if i < j then pickN picks i else 0) i = 64 := by
      rw [hhalf, hR] at hst
      have := torn_row (g := g + 1) (k := 0) (r := s) (pk := fun i => if i < j then pickN picks i else 0) hg2 hs (fun i => by
        show (if _ then _ else _) ≤ 64
        split
        · exact pickN_le _ _
        · omega) _ hst
      rw [hR]
      exact this
    have hw : mixL (fun i => if i < j then pickN picks i else 0) R = R := mixL_all (by rw [hR]; exact rowsOf_64) hall
    rw [hw] at hhalf
    have hH : Holds (puts S ot (mixL (pickN picks) (R.take j))) (n / 2 - fr) (n / 2) (g + 1) s [] := by
      rw [← hot]
      refine ⟨by rw [← hR]; simpa [recRows] using hfit, ?_⟩
      rw [hhalf, hR]
      simp [recRows]
    have h9 := openT_next (n := n) hfr hother hgg hH hg2 hs (by simp) (by simp)
    rw [h9, ← hot]
    simp [recRows, hR]
  · left
    refine openT_same ?_ ?_
    · rw [← hfr2]; exact hother
    · rw [← hfr2, ← hot, readL_none hst]
      exact .inl rfl
/-- a half that was read, and the other one of the generation before -/
theorem openT_read {n fr g : Nat} {N N' : List (List UInt8)} {H : HalfT} (hfr : fr = 0 ∨ fr = n / 2) (hold : halfOf N' fr (n / 2) = halfOf N fr (n / 2)) (hg : (readL (halfOf N fr (n / 2))).gen = g) (hH : readL (halfOf N' (n / 2 - fr) (n / 2)) = H) (hHg : H.gen = g + 1) :
    openT n N' = ⟨n / 2 - fr, H, false⟩ := by
  rw [← hold] at hg
  rcases hfr with rfl | rfl
  · rw [Nat.sub_zero] at hH
    rw [openT_is rfl hH, Nat.sub_zero, if_neg (by simp only [hg]; omega)]
  · rw [Nat.sub_self] at hH
    rw [openT_is hH rfl, Nat.sub_self, if_pos (by simp only [hg]; omega)]
/-- the power went behind records that were synced, while others were written -/
theorem openT_torn {n fr g : Nat} {N S : List (List UInt8)} {s : List UInt8} {rs qs : List (List UInt8)} (hS : S.length = n) (hfr : fr = 0 ∨ fr = n / 2) (hold : halfOf S fr (n / 2) = halfOf N fr (n / 2)) (hg : (readL (halfOf N fr (n / 2))).gen = g)
    (h : Holds S (n / 2 - fr) (n / 2) (g + 1) s rs) (hfit : (rowsOf (g + 1) 0 s).length + (recRows (g + 1) 1 rs).length + (recRows (g + 1) (1 + rs.length) qs).length ≤ n / 2)
    (hg2 : g + 1 ≤ 1099511627776) (hs : s.length ≤ 65536) (hr : ∀ r ∈ rs, r.length ≤ 65536) (hq : ∀ r ∈ qs, r.length ≤ 65536) (hn : rs.length + qs.length < 2147483647) (picks : List Int) (j : Nat) (hj : j ≤ (recRows (g + 1) (1 + rs.length) qs).length) :
    ∃ q fin, q ≤ qs.length ∧ openT n (crashTo (idxs (n / 2 - fr + ((rowsOf (g + 1) 0 s).length + (recRows (g + 1) 1 rs).length)) ((recRows (g + 1) (1 + rs.length) qs).take j)) picks S j) = ⟨n / 2 - fr, ⟨g + 1, s, rs ++ qs.take q, fin⟩, false⟩ := by
  obtain ⟨ot, hot⟩ : ∃ z, z = n / 2 - fr := ⟨_, rfl⟩
  rw [← hot] at h ⊢
  obtain ⟨L, hL⟩ : ∃ z, z = recRows (g + 1) (1 + rs.length) qs := ⟨_, rfl⟩
  rw [← hL] at hfit hj ⊢
  obtain ⟨at_, hat⟩ : ∃ z, z = ot + ((rowsOf (g + 1) 0 s).length + (recRows (g + 1) 1 rs).length) := ⟨_, rfl⟩
  have hzs := fun i hi => h.zeros i hi
  rw [← hat] at hzs ⊢
  have hlen : (L.take j).length = j := by rw [List.length_take]; omega
  have hX : crashTo (idxs at_ (L.take j)) picks S j = puts S at_ (mixL (fun i => if i < j then pickN picks i else 0) L) := by
    have h9 := crashTo_idxs (at_ := at_) (L := L.take j) (S := S) (fun i hi => hzs i (by omega)) (by omega) picks j (by omega)
    rw [List.take_take, Nat.min_self] at h9
    rw [h9, ← mixL_take _ _ _ hj]
    apply List.ext_getElem?
    intro i
    rw [puts_get _ _ _ _ (by rw [mixL_length]; omega), puts_get _ _ _ _ (by rw [List.length_append, mixL_length, List.length_replicate]; omega)]
    simp only [List.getElem?_append, List.getElem?_replicate, List.length_append, List.length_replicate, mixL_length, hlen]
    by_cases h1 : at_ ≤ i ∧ i < at_ + j
    · rw [if_pos h1, if_pos (by omega), if_pos (by omega)]
    · rw [if_neg h1]
      by_cases h2 : at_ ≤ i ∧ i < at_ + (j + (L.length - j))
      · rw [if_pos h2, if_neg (by omega), if_pos (by omega)]
        have := hzs (i - at_) (by omega)
        rw [show at_ + (i - at_) = i by omega] at this
        exact this
      · rw [if_neg h2]
  obtain ⟨q, fin, hq1, hrd, _⟩ := h.torn (qs := qs) (by omega) (by rw [← hL]; exact hfit) (by omega) hg2 hs hr hq hn (fun i => if i < j then pickN picks i else 0) (fun i => by
    show (if _ then _ else _) ≤ 64
    split
    · exact pickN_le _ _
    · omega)
  rw [← hL, ← hat] at hrd
  refine ⟨q, fin, hq1, ?_⟩
  rw [hX]
  rw [hot] at hrd
  have h8 := openT_read (n := n) (N := N) (N' := puts S at_ (mixL (fun i => if i < j then pickN picks i else 0) L)) hfr (by rw [puts_other (by rw [mixL_length]; omega) (by rw [mixL_length]; omega), hold]) hg hrd rfl
  rw [h8, ← hot]
end Cam
namespace Cam
open Go Go.RowKit Go.Proofs

def svOf : Value → SV
  | .slice a n c => (a, n, c)
  | _ => (none, 0, 0)
/-- slices that hold these bytes -/
def RowsOf (w : World) (L : List SV) (ls : List (List UInt8)) : Prop := L.length = ls.length ∧ ∀ i (h : i < L.length) (h' : i < ls.length), Bs w L[i].v ls[i]
theorem flat_encS (L : List SV) : flatW encS L = L.map SV.v := by
  induction L with
  | nil => rfl
  | cons a l ih => simp only [flatW, List.map_cons, List.flatten_cons] at ih ⊢; rw [ih]; rfl
theorem Bss.rs {w : World} {v : Value} {ls : List (List UInt8)} (h : Bss w v ls) : ∃ L : List SV, Rs encS 1 w v L ∧ RowsOf w L ls := by
  obtain ⟨vs, h1, h2, h3⟩ := h
  have hv : ∀ i (h : i < vs.length), (svOf vs[i]).v = vs[i] := fun i hi => by
    obtain ⟨a, c, e, _⟩ := (h3 i (by omega) hi).shape
    rw [e]
    rfl
  have he : (vs.map svOf).map SV.v = vs := by
    apply List.ext_getElem
    · simp
    · intro i a b
      simpa using hv i b
  refine ⟨vs.map svOf, ⟨encS_len, ?_⟩, by simp [h1], fun i a b => ?_⟩
  · rw [flat_encS, he, List.length_map, h1]
    exact h2
  · have := h3 i b (by simpa using a)
    rw [← hv i (by simpa using a)] at this
    simpa using this
theorem Bss.of_rs {w : World} {v : Value} {L : List SV} {ls : List (List UInt8)} (h : Rs encS 1 w v L) (hr : RowsOf w L ls) : Bss w v ls := by
  refine ⟨L.map SV.v, by simp [hr.1], ?_, fun i a b => ?_⟩
  · have := h.2
    rw [flat_encS, hr.1] at this
    exact this
  · have := hr.2 i (by simpa using b) a
    simpa using this
theorem RowsOf.mono {w w' : World} {L : List SV} {ls : List (List UInt8)} (h : RowsOf w L ls) (hb : Below w.heap.size w w') : RowsOf w' L ls := ⟨h.1, fun i a b => (h.2 i a b).mono hb⟩
theorem RowsOf.nil (w : World) : RowsOf w [] [] := ⟨rfl, fun _ h => absurd h (Nat.not_lt_zero _)⟩
theorem RowsOf.append {w : World} {L M : List SV} {ls ms : List (List UInt8)} (h : RowsOf w L ls) (k : RowsOf w M ms) : RowsOf w (L ++ M) (ls ++ ms) := by
  refine ⟨by simp [h.1, k.1], fun i a b => ?_⟩
  have hl := h.1
  by_cases hi : i < L.length
  · rw [List.getElem_append_left hi, List.getElem_append_left (by omega)]
    exact h.2 i hi (by omega)
  · simp only [List.length_append] at a b
    rw [List.getElem_append_right (by omega), List.getElem_append_right (by omega)]
    simp only [← hl]
    exact k.2 (i - L.length) (by omega) (by omega)
theorem RowsOf.one {w : World} {s : SV} {l : List UInt8} (h : Bs w s.v l) : RowsOf w [s] [l] := ⟨rfl, fun i a b => by
  obtain rfl : i = 0 := by simp at a; exact a
  exact h⟩
theorem Bss.take {w : World} {a : Option Addr} {n c k : Nat} {ls : List (List UInt8)} (h : Bss w (.slice a n c) ls) (hk : k ≤ ls.length) : Bss w (.slice a k c) (ls.take k) := by
  obtain ⟨vs, h1, ⟨h0, a', c', e, h3, h4, h5, h6⟩, h7⟩ := h
  simp only [Value.slice.injEq] at e
  obtain ⟨rfl, rfl, rfl⟩ := e
  have hl : (ls.take k).length = k := by rw [List.length_take]; omega
  refine ⟨vs.take k, by rw [List.length_take, List.length_take, h1], ⟨by rw [hl, List.length_take]; omega, a, c, by rw [hl], by omega, h4, fun h => ?_, fun ad had i u hu => ?_⟩, fun i a b => ?_⟩
  · exact h5 (by omega)
  · rw [List.getElem?_take] at hu
    split at hu
    · exact h6 ad had i u hu
    · cases hu
  · simp only [List.getElem_take]
    exact h7 i (by rw [hl] at a; omega) (by rw [List.length_take] at b; omega)
/-- rows of the call's own whose elements are arguments -/
theorem stay_rows {F : Nat → Prop} {w0 w1 : World} {base : Nat} {t : TypeId} {v : Value} {L : List SV} {ls : List (List UInt8)} (h : OwnR encS 1 t w1 base v L) (hF : ∀ q, v.ownBlock = some q → ¬ F q) (hr : RowsOf w0 L ls) (hb : Below w0.heap.size w0 w1) (hB : ∀ q, F q → w0.heap.size ≤ q) : Stay F w1 (fun w' => Bss w' v ls) := fun _ hk =>
  Bss.of_rs (h.keptJ hk hF).rs (hr.mono (hb.trans (keptB hk hB hb.size)))
theorem Stay.recs {F Fr : Nat → Prop} {w : World} {v : Value} {R : List (List UInt8)} (h : recsM w Fr v R) (hF : ∀ q, Fr q → ¬ F q) : Stay F w (fun w' => Bss w' v R) := fun _ hk => (h.kept hk hF).bss

/-- what found asks -/
def Fnd (H : HalfT) (s : List UInt8) (m : Nat) (all : List (List UInt8)) : Prop := H.snap = s ∧ m ≤ H.recs.length ∧ H.recs.length ≤ all.length ∧ H.recs = all.take H.recs.length
set_option maxHeartbeats 1600000 in
theorem found_any {B : Nat} (w : World) (g gl n : Nat) (D : DK) (T : LT) (h : JM B w g gl n D T) (v1 v3 : Value) (s : List UInt8) (a2 : Option Addr) (m c2 : Nat) (all : List (List UInt8)) (h1 : Bs w v1 s) (h3 : Bss w v3 all)
    (hl : ∀ r ∈ T.half.recs, r.length ≤ 1000000) (hn : T.half.recs.length ≤ 1000000) (hs : T.half.snap.length ≤ 1000000) :
    Calls Try.prog 28 #[.pointer (some ⟨gl, 0, none⟩), v1, .slice a2 m c2, v3] w fun e w' => (∃ b : Bool, e = .returned (.bool b) ∧ (b = true ↔ Fnd T.half s m all)) ∧ Below w.heap.size w w' := by
  obtain ⟨a1, c1, rfl, hc1, hm1⟩ := h1.shape
  obtain ⟨a3, c3, rfl, hc3, hm3⟩ := h3.len
  obtain ⟨n1, hn1⟩ : ∃ z, z = s.length := ⟨_, rfl⟩
  obtain ⟨n3, hn3⟩ : ∃ z, z = all.length := ⟨_, rfl⟩
  rw [← hn1] at h1 hc1 ⊢
  rw [← hn3] at h3 hc3 ⊢
  have H1 := Lib.hid h1
  have H3 := Lib.hid h3
  have HN3 := Lib.hid hn3
  have HJ := Lib.hid h
  obtain ⟨R, hR⟩ : ∃ z, z = T.half.recs := ⟨_, rfl⟩
  have HR := Lib.hid hR
  have hrc := Recs_j w g gl n D T h hl hn
  rw [← hR] at hrc hn
  have HS := Lib.hid hs
  clear h h1 h3 hn1 hn3 hl hs hR
  go_enter Try.func28, Try.ntmps28
  go_wp2_with fail
  (with_reducible refine hrc.mono ?_)
  clear hrc
  rintro e w1 ⟨u1, rfl, hu1, hb1⟩
  obtain ⟨ar, nr, cr, rfl, hnr, hu1⟩ := hu1.named
  have HNR := Lib.hid hnr.out
  have HU1 := Lib.hid hu1
  have HB1 := Lib.hid hb1
  have hsn := Snap_j w1 g gl n D T (HJ.out.below hb1) HS.out
  clear hu1 hb1 hnr
  go_wp2_with fail
  (with_reducible refine hsn.mono ?_)
  clear hsn
  rintro e w2 ⟨u2, rfl, hu2, hb2⟩
  have HB2 := Lib.hid (HB1.out.next hb2)
  have HU2 := Lib.hid (HU1.out.below hb2)
  have hby := Bytes_any w2 u2 (.slice a1 n1 c1) _ s hu2.bs (H1.out.mono HB2.out)
  obtain ⟨bs, hbs⟩ : ∃ z : Bool, z = decide (T.half.snap = s) := ⟨_, rfl⟩
  rw [← hbs] at hby
  have HBS := Lib.hid hbs
  clear hu2 hb2 hbs
  go_wp2_with fail
  (with_reducible refine hby.mono ?_)
  clear hby
  rintro e w3 ⟨rfl, hb3⟩
  have HB3 := Lib.hid (HB2.out.next hb3)
  have HU3 := Lib.hid (HU2.out.below hb3)
  clear hb3
  cases bs with
  | false =>
    go_wp2_with fail
    go_ret
    exact ⟨⟨false, rfl, by simp, fun e => by have h9 := HBS.out; rw [decide_eq_true e.1] at h9; cases h9⟩, HB3.out⟩
  | true =>
    have HSS : Hid (T.half.snap = s) := by show T.half.snap = s; have h9 := HBS.out; exact of_decide_eq_true h9.symm
    by_cases q1 : m ≤ nr
    · have q1' : (m : Int) ≤ nr := by omega
      by_cases q2 : nr ≤ n3
      · have q2' : (nr : Int) ≤ n3 := by omega
        have hq3 : nr ≤ c3 := by omega
        have hrw := Rows_any w3 (.slice ar nr cr) (.slice a3 nr c3) R (all.take nr) HU3.out.bss ((H3.out.mono HB3.out).take (by have := HN3.out; omega)) (by omega)
        obtain ⟨br, hbr⟩ : ∃ z : Bool, z = decide (R = all.take nr) := ⟨_, rfl⟩
        rw [← hbr] at hrw
        have HBR := Lib.hid hbr
        clear hbr
        go_wp2_with fail
        (with_reducible refine hrw.mono ?_)
        clear hrw
        rintro e w4 ⟨rfl, hb4⟩
        have HB4 := Lib.hid (HB3.out.next hb4)
        clear hb4
        go_wp2_with fail
        go_ret
        refine ⟨⟨br, rfl, ?_⟩, HB4.out⟩
        rw [HBR.out, decide_eq_true_iff]
        have h8 := HR.out
        have h7 := HNR.out
        have h6 := HN3.out
        constructor
        · intro e
          exact ⟨HSS.out, by rw [← h8, ← h7]; exact q1, by rw [← h8, ← h7, ← h6]; exact q2, by rw [← h8, ← h7]; exact e⟩
        · intro e
          have := e.2.2.2
          rw [← h8, ← h7] at this
          exact this
      · have q2' : decide ((nr : Int) ≤ n3) = false := by simp; omega
        have q2'' : decide (nr ≤ n3) = false := by simp; omega
        go_wp2_with fail
        go_ret
        exact ⟨⟨false, rfl, by simp, fun e => by have h9 := e.2.2.1; have := HR.out; have := HNR.out; have := HN3.out; rw [← HR.out] at h9; omega⟩, HB3.out⟩
    · have q1' : decide ((m : Int) ≤ nr) = false := by simp; omega
      have q1'' : decide (m ≤ nr) = false := by simp; omega
      go_wp2_with fail
      go_ret
      exact ⟨⟨false, rfl, by simp, fun e => by have h9 := e.2.1; have := HNR.out; rw [← HR.out] at h9; omega⟩, HB3.out⟩
theorem Arm_f {F : Nat → Prop} (w : World) (g gl n : Nat) (D : DK) (T : LT) (h : JF F w g gl n D T) (m : Int) (hm : m ≤ 9223372036854775807) :
    Calls Try.prog 30 #[.pointer (some ⟨g, 0, none⟩), .int .i64 m] w fun e w' => e = .returned (.tuple #[]) ∧ JFP F w g gl n (dArm D m) T w' := by
  obtain ⟨Fd, Fl, h1, h2, h3, h4⟩ := h
  refine (Arm_x w g n Fd D h1 m hm).mono ?_
  rintro e w' ⟨he, hd⟩
  obtain ⟨F', hd', hk, hf⟩ := hd
  exact ⟨he, (JPost.quit h2 hd' (Below.refl _ _) hk hf h3).jf h4⟩
theorem Begin_g {F : Nat → Prop} (w : World) (g gl n : Nat) (D : DK) (T : LT) (h : JF F w g gl n D T) (v : Value) (s : List UInt8) (hsn : ∀ w', Kept F w w' → Bs w' v s)
    (hfr : T.from_ = 0 ∨ T.from_ = n / 2) (hgen : T.half.gen < 1099511627776) (hs : s.length ≤ 65536) (hfit : (rowsOf (T.half.gen + 1) 0 s).length ≤ n / 2) (hop : D.op.length ≤ 500000) :
    Calls Try.prog 14 #[.pointer (some ⟨gl, 0, none⟩), v] w fun e w' => e = .returned (.int .i64 (dPhases D (n / 2 - T.from_) [List.replicate (n / 2) zero64, rowsOf (T.half.gen + 1) 0 s]).1) ∧
      JFP F w g gl n (dPhases D (n / 2 - T.from_) [List.replicate (n / 2) zero64, rowsOf (T.half.gen + 1) 0 s]).2 (if (dPhases D (n / 2 - T.from_) [List.replicate (n / 2) zero64, rowsOf (T.half.gen + 1) 0 s]).1 = 0 then ⟨n / 2 - T.from_, ⟨T.half.gen + 1, s, [], (rowsOf (T.half.gen + 1) 0 s).length⟩, true⟩ else T) w' := by
  obtain ⟨Fd, Fl, h1, h2, h3, h4⟩ := h
  refine (Begin_go w gl g n Fd Fl D T h1 h2 h3 v s (fun w' hk => hsn w' (hk.weaken (fun k e => (h4 k).2 (.inl e)))) hfr hgen hs hfit hop).mono ?_
  rintro e w' ⟨he, hj⟩
  exact ⟨he, hj.jf h4⟩
theorem Append_g {F : Nat → Prop} (w : World) (g gl n : Nat) (D : DK) (T : LT) (h : JF F w g gl n D T) (v : Value) (rs : List (List UInt8)) (hrs : ∀ w', Kept F w w' → Bss w' v rs)
    (hbg : T.begun = true) (hoff : D.off = false) (hfr : T.from_ ≤ n / 2) (hfi : T.half.fin ≤ n / 2) (hgen : T.half.gen ≤ 1099511627776) (hnr : T.half.recs.length ≤ 1000000) (hle : ∀ r ∈ rs, r.length ≤ 65536) (hns : rs.length ≤ 1000) (hop : D.op.length ≤ 500000) :
    Calls Try.prog 15 #[.pointer (some ⟨gl, 0, none⟩), v] w fun e w' => e = .returned (.int .i64 (appR n D T rs).1) ∧ JFP F w g gl n (appR n D T rs).2.1 (appR n D T rs).2.2 w' := by
  obtain ⟨Fd, Fl, h1, h2, h3, h4⟩ := h
  refine (Append_go w gl g n Fd Fl D T h1 h2 h3 v rs (fun w' hk => hrs w' (hk.weaken (fun k e => (h4 k).2 e))) hbg hoff hfr hfi hgen hnr hle hns hop).mono ?_
  rintro e w' ⟨he, hj⟩
  exact ⟨he, hj.jf h4⟩
theorem Sync_g {F : Nat → Prop} (w : World) (g gl n : Nat) (D : DK) (T : LT) (h : JF F w g gl n D T) :
    Calls Try.prog 16 #[.pointer (some ⟨gl, 0, none⟩)] w fun e w' => e = .returned (.int .i64 (dSync D).1) ∧ JFP F w g gl n (dSync D).2 T w' := by
  obtain ⟨Fd, Fl, h1, h2, h3, h4⟩ := h
  refine (LSync_any w g gl n Fd Fl D T h1 h2 h3).mono ?_
  rintro e w' ⟨he, hj⟩
  exact ⟨he, hj.jf h4⟩
end Cam
namespace Cam
open Go Go.RowKit Go.Proofs

theorem begin_arm {D : DK} {n : Nat} {s : List UInt8} (h : OnA D) (ho : D.op = []) (hN : D.now.length = n) (hg2 : (openT n D.now).half.gen + 1 ≤ 1099511627776) (hs : s.length ≤ 65536) (hfit : (rowsOf ((openT n D.now).half.gen + 1) 0 s).length ≤ n / 2) :
    (∃ a, dPhases D (n / 2 - (openT n D.now).from_) [List.replicate (n / 2) zero64, rowsOf ((openT n D.now).half.gen + 1) 0 s] = (0, { dLaid D (puts (puts D.now (n / 2 - (openT n D.now).from_) (List.replicate (n / 2) zero64)) (n / 2 - (openT n D.now).from_) (rowsOf ((openT n D.now).half.gen + 1) 0 s)) with arm := a })) ∨
    ∃ D', dPhases D (n / 2 - (openT n D.now).from_) [List.replicate (n / 2) zero64, rowsOf ((openT n D.now).half.gen + 1) 0 s] = (7, D') ∧
      ∀ picks, openT n (crashN D' picks) = openT n D.now ∨ openT n (crashN D' picks) = ⟨n / 2 - (openT n D.now).from_, ⟨(openT n D.now).half.gen + 1, s, [], (rowsOf ((openT n D.now).half.gen + 1) 0 s).length⟩, false⟩ := by
  rcases dPhases_arm h ho (n / 2 - (openT n D.now).from_) (List.replicate (n / 2) zero64) (rowsOf ((openT n D.now).half.gen + 1) 0 s) with h1 | ⟨j, D', hj, e, _, h2, h3⟩ | ⟨j, D', hj, e, _, h2, h3⟩
  · exact .inl h1
  · refine .inr ⟨D', e, fun picks => .inl ?_⟩
    rw [List.length_replicate] at hj
    unfold crashN
    rw [h2, h3, idxs_length, List.length_take, List.length_replicate, Nat.min_eq_left hj]
    exact openT_zeroing hN picks j hj
  · refine .inr ⟨D', e, fun picks => ?_⟩
    unfold crashN
    rw [h2, h3, idxs_length, List.length_take, Nat.min_eq_left hj]
    exact openT_rowing hN hg2 hs hfit picks j hj
/-- what is found if the power goes now -/
def Due (n : Nat) (D : DK) (fr g : Nat) (s : List UInt8) (m : Nat) (al : List (List UInt8)) : Prop := ∀ picks, ∃ q fin, m ≤ q ∧ q ≤ al.length ∧ openT n (crashN D picks) = ⟨fr, ⟨g, s, al.take q, fin⟩, false⟩
theorem Due.fnd {n : Nat} {D : DK} {fr g : Nat} {s : List UInt8} {m : Nat} {al : List (List UInt8)} (h : Due n D fr g s m al) (picks : List Int) : Fnd (openT n (crashN D picks)).half s m al ∧ (openT n (crashN D picks)).half.gen = g := by
  obtain ⟨q, fin, h1, h2, h3⟩ := h picks
  rw [h3]
  have hl : (al.take q).length = q := by rw [List.length_take]; omega
  exact ⟨⟨rfl, by show m ≤ (al.take q).length; omega, by show (al.take q).length ≤ _; omega, by show al.take q = al.take (al.take q).length; rw [hl]⟩, rfl⟩
theorem due_of {n fr g : Nat} {N S : List (List UInt8)} {s : List UInt8} {rs qs : List (List UInt8)} (hS : S.length = n) (hfr : fr = 0 ∨ fr = n / 2) (hold : halfOf S fr (n / 2) = halfOf N fr (n / 2)) (hg : (readL (halfOf N fr (n / 2))).gen = g)
    (h : Holds S (n / 2 - fr) (n / 2) (g + 1) s rs) (hfit : (rowsOf (g + 1) 0 s).length + (recRows (g + 1) 1 rs).length + (recRows (g + 1) (1 + rs.length) qs).length ≤ n / 2)
    (hg2 : g + 1 ≤ 1099511627776) (hs : s.length ≤ 65536) (hr : ∀ r ∈ rs, r.length ≤ 65536) (hq : ∀ r ∈ qs, r.length ≤ 65536) (hn : rs.length + qs.length < 2147483647)
    {D : DK} (hsyn : D.syn = S) {j : Nat} (hj : j ≤ (recRows (g + 1) (1 + rs.length) qs).length) (hop : D.op = idxs (n / 2 - fr + ((rowsOf (g + 1) 0 s).length + (recRows (g + 1) 1 rs).length)) ((recRows (g + 1) (1 + rs.length) qs).take j)) :
    Due n D (n / 2 - fr) (g + 1) s rs.length (rs ++ qs) := fun picks => by
  obtain ⟨q, fin, hq1, e⟩ := openT_torn hS hfr hold hg h hfit hg2 hs hr hq hn picks j hj
  refine ⟨rs.length + q, fin, by omega, by rw [List.length_append]; omega, ?_⟩
  unfold crashN
  rw [hop, hsyn, idxs_length, List.length_take, Nat.min_eq_left hj, e, List.take_length_add_append]
theorem idxs_append : ∀ (A B : List (List UInt8)) (k : Nat), idxs k (A ++ B) = idxs k A ++ idxs (k + A.length) B
  | [], B, k => by simp [idxs]
  | a :: A, B, k => by
    rw [List.cons_append, idxs, idxs_append A B, idxs, List.length_cons, List.cons_append, Nat.add_assoc, Nat.add_comm 1]

/-- a life behind its Begin: the old half fr, the generation g + 1 in the other -/
structure Begun (n fr g : Nat) (N S : List (List UInt8)) (s : List UInt8) : Prop where
  len : S.length = n
  side : fr = 0 ∨ fr = n / 2
  old : halfOf S fr (n / 2) = halfOf N fr (n / 2)
  gen : (readL (halfOf N fr (n / 2))).gen = g
  holds : Holds S (n / 2 - fr) (n / 2) (g + 1) s []
/-- records appended one by one, up to an error e -/
def App (n fr g : Nat) (S : List (List UInt8)) (s : List UInt8) (D : DK) (T : LT) (e : Int) (rs : List (List UInt8)) : Prop :=
  D.syn = S ∧ ∃ j, j ≤ (recRows (g + 1) 1 rs).length ∧ D.op = idxs (n / 2 - fr + (rowsOf (g + 1) 0 s).length) ((recRows (g + 1) 1 rs).take j) ∧
    (e = 0 ∧ OnA D ∧ T = ⟨n / 2 - fr, ⟨g + 1, s, rs, (rowsOf (g + 1) 0 s).length + (recRows (g + 1) 1 rs).length⟩, true⟩ ∧ j = (recRows (g + 1) 1 rs).length ∨ e = 7)
theorem App.due {n fr g : Nat} {N S : List (List UInt8)} {s : List UInt8} {D : DK} {T : LT} {e : Int} {rs : List (List UInt8)} (h : App n fr g S s D T e rs) (hb : Begun n fr g N S s) (hfit : (rowsOf (g + 1) 0 s).length + (recRows (g + 1) 1 rs).length ≤ n / 2)
    (hg2 : g + 1 ≤ 1099511627776) (hs : s.length ≤ 65536) (hr : ∀ r ∈ rs, r.length ≤ 65536) (hn : rs.length < 2147483647) : Due n D (n / 2 - fr) (g + 1) s 0 rs := by
  obtain ⟨h1, j, hj, hop, _⟩ := h
  have := due_of (rs := []) (qs := rs) hb.len hb.side hb.old hb.gen hb.holds (by simpa [recRows] using hfit) hg2 hs (by simp) hr (by simpa using hn) h1 (j := j) (by simpa using hj) (by simpa [recRows] using hop)
  simpa using this
/-- the next one -/
theorem App.step {n fr g : Nat} {S : List (List UInt8)} {s : List UInt8} {D : DK} {T : LT} {rs : List (List UInt8)} (h : App n fr g S s D T 0 rs) (r : List UInt8) (hfit : (rowsOf (g + 1) 0 s).length + (recRows (g + 1) 1 (rs ++ [r])).length ≤ n / 2) :
    App n fr g S s (appR n D T [r]).2.1 (appR n D T [r]).2.2 (appR n D T [r]).1 (rs ++ [r]) := by
  obtain ⟨h1, j, hj, hop, h3⟩ := h
  rcases h3 with ⟨_, hon, hT, hj2⟩ | h3
  · subst hj2
    rw [List.take_length] at hop
    have e1 : recRows (g + 1) 1 (rs ++ [r]) = recRows (g + 1) 1 rs ++ recRows (g + 1) (rs.length + 1) [r] := by rw [recRows_append, Nat.add_comm 1]
    have hf2 : ¬ n / 2 < T.half.fin + (recRows T.half.gen (T.half.recs.length + 1) [r]).length := by
      rw [hT]
      rw [e1, List.length_append] at hfit
      show ¬ n / 2 < (rowsOf (g + 1) 0 s).length + (recRows (g + 1) 1 rs).length + (recRows (g + 1) (rs.length + 1) [r]).length
      omega
    have ea : appR n D T [r] = if (dWrites D (T.from_ + T.half.fin) (recRows T.half.gen (T.half.recs.length + 1) [r])).1 = 0 then (0, (dWrites D (T.from_ + T.half.fin) (recRows T.half.gen (T.half.recs.length + 1) [r])).2, ⟨T.from_, ⟨T.half.gen, T.half.snap, T.half.recs ++ [r], T.half.fin + (recRows T.half.gen (T.half.recs.length + 1) [r]).length⟩, T.begun⟩)
        else ((dWrites D (T.from_ + T.half.fin) (recRows T.half.gen (T.half.recs.length + 1) [r])).1, (dWrites D (T.from_ + T.half.fin) (recRows T.half.gen (T.half.recs.length + 1) [r])).2, T) := by
      unfold appR
      rw [if_neg hf2]
    rcases dWrites_arm (recRows T.half.gen (T.half.recs.length + 1) [r]) hon (T.from_ + T.half.fin) with ⟨a, e⟩ | ⟨j2, D', hj2, e, _, k2, k3⟩
    · rw [e, if_pos rfl] at ea
      rw [ea]
      refine ⟨h1, (recRows (g + 1) 1 (rs ++ [r])).length, Nat.le_refl _, ?_, .inl ⟨rfl, (hon.puts _ _).next a, ?_, rfl⟩⟩
      · show D.op ++ idxs _ _ = _
        rw [List.take_length, e1, idxs_append, hop, hT]
        simp only [Nat.add_assoc]
      · rw [hT]
        simp only [LT.mk.injEq, HalfT.mk.injEq, true_and, and_true]
        rw [e1, List.length_append, Nat.add_assoc]
    · rw [e, if_neg (by simp)] at ea
      rw [ea]
      rw [hT] at hj2
      refine ⟨k2.trans h1, (recRows (g + 1) 1 rs).length + j2, by rw [e1, List.length_append]; exact Nat.add_le_add_left hj2 _, ?_, .inr rfl⟩
      show D'.op = _
      rw [k3, hop, e1, List.take_length_add_append, idxs_append, hT]
      simp only [Nat.add_assoc]
  · cases h3
/-- synced: the half holds them -/
theorem App.held {n fr g : Nat} {N S : List (List UInt8)} {s : List UInt8} {D : DK} {T : LT} {rs : List (List UInt8)} (h : App n fr g S s D T 0 rs) (hb : Begun n fr g N S s) (hfit : (rowsOf (g + 1) 0 s).length + (recRows (g + 1) 1 rs).length ≤ n / 2) :
    OnA D ∧ T = ⟨n / 2 - fr, ⟨g + 1, s, rs, (rowsOf (g + 1) 0 s).length + (recRows (g + 1) 1 rs).length⟩, true⟩ ∧ D.now.length = n ∧ halfOf D.now fr (n / 2) = halfOf N fr (n / 2) ∧ Holds D.now (n / 2 - fr) (n / 2) (g + 1) s rs := by
  obtain ⟨h1, j, hj, hop, h3⟩ := h
  rcases h3 with ⟨_, hon, hT, hj2⟩ | h3
  · subst hj2
    rw [List.take_length] at hop
    have hfr := hb.side
    have hnow : D.now = puts S (n / 2 - fr + (rowsOf (g + 1) 0 s).length) (recRows (g + 1) 1 rs) := by
      have := sets_idxs (recRows (g + 1) 1 rs) S [] (n / 2 - fr + (rowsOf (g + 1) 0 s).length)
      rw [hon.full, hop, h1]
      simpa [sets] using this
    have hap := append_holds (qs := rs) hb.holds (by have := hb.len; omega) (by simpa [recRows] using hfit)
    rw [hnow]
    refine ⟨hon, hT, by rw [puts_length, hb.len], ?_, by simpa [recRows] using hap⟩
    rw [puts_other (by have := hb.len; omega) (by omega), hb.old]
  · cases h3
/-- the rest, behind a sync -/
theorem rest_due {n fr g : Nat} {N S : List (List UInt8)} {s : List UInt8} {D : DK} {rs qs : List (List UInt8)} {T : LT} (hS : S.length = n) (hfr : fr = 0 ∨ fr = n / 2) (hold : halfOf S fr (n / 2) = halfOf N fr (n / 2)) (hg : (readL (halfOf N fr (n / 2))).gen = g)
    (h : Holds S (n / 2 - fr) (n / 2) (g + 1) s rs) (hT : T = ⟨n / 2 - fr, ⟨g + 1, s, rs, (rowsOf (g + 1) 0 s).length + (recRows (g + 1) 1 rs).length⟩, true⟩)
    (hg2 : g + 1 ≤ 1099511627776) (hs : s.length ≤ 65536) (hr : ∀ r ∈ rs, r.length ≤ 65536) (hq : ∀ r ∈ qs, r.length ≤ 65536) (hn : rs.length + qs.length < 2147483647) (hon : OnA D) (hsyn : D.syn = S) (hop : D.op = []) :
    Due n (appR n D T qs).2.1 (n / 2 - fr) (g + 1) s rs.length (rs ++ qs) := by
  have hfit0 := h.1
  by_cases hf : n / 2 < T.half.fin + (recRows T.half.gen (T.half.recs.length + 1) qs).length
  · have ea : appR n D T qs = (9, D, T) := by unfold appR; rw [if_pos hf]
    rw [ea]
    have h9 := due_of (qs := []) (D := D) (j := 0) hS hfr hold hg h (by simpa [recRows] using hfit0) hg2 hs hr (by simp) (by simp; omega) hsyn (by simp) (by rw [hop]; simp [idxs])
    intro picks
    obtain ⟨q, fin, q1, q2, q3⟩ := h9 picks
    rw [List.append_nil] at q2 q3
    refine ⟨q, fin, q1, by rw [List.length_append]; omega, ?_⟩
    rw [List.take_append_of_le_length q2]
    exact q3
  · have hf2 := hf
    rw [hT] at hf2
    have hfit : (rowsOf (g + 1) 0 s).length + (recRows (g + 1) 1 rs).length + (recRows (g + 1) (1 + rs.length) qs).length ≤ n / 2 := by
      rw [Nat.add_comm 1]
      exact Nat.not_lt.1 hf2
    have ea : appR n D T qs = if (dWrites D (T.from_ + T.half.fin) (recRows T.half.gen (T.half.recs.length + 1) qs)).1 = 0 then (0, (dWrites D (T.from_ + T.half.fin) (recRows T.half.gen (T.half.recs.length + 1) qs)).2, ⟨T.from_, ⟨T.half.gen, T.half.snap, T.half.recs ++ qs, T.half.fin + (recRows T.half.gen (T.half.recs.length + 1) qs).length⟩, T.begun⟩)
        else ((dWrites D (T.from_ + T.half.fin) (recRows T.half.gen (T.half.recs.length + 1) qs)).1, (dWrites D (T.from_ + T.half.fin) (recRows T.half.gen (T.half.recs.length + 1) qs)).2, T) := by
      unfold appR
      rw [if_neg hf]
    rcases dWrites_arm (recRows T.half.gen (T.half.recs.length + 1) qs) hon (T.from_ + T.half.fin) with ⟨a, e⟩ | ⟨j2, D', hj2, e, _, k2, k3⟩
    · rw [e, if_pos rfl] at ea
      rw [ea]
      refine due_of hS hfr hold hg h hfit hg2 hs hr hq hn (j := (recRows (g + 1) (1 + rs.length) qs).length) hsyn (Nat.le_refl _) ?_
      show D.op ++ idxs _ _ = _
      rw [hop, List.take_length, hT, Nat.add_comm 1]
      rfl
    · rw [e, if_neg (by simp)] at ea
      rw [ea]
      refine due_of hS hfr hold hg h hfit hg2 hs hr hq hn (j := j2) (k2.trans hsyn) ?_ ?_
      · rw [hT] at hj2
        rw [Nat.add_comm 1]
        exact hj2
      · show D'.op = _
        rw [k3, hop, hT, Nat.add_comm 1]
        rfl
end Cam
