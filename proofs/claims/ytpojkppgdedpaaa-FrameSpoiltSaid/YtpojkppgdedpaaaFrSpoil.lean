import Derived.Test.YtpojkppgdedpaaaFrPure
/- A spoilt frame is none. No walk. -/
namespace Cam
open Go Go.RowKit Go.Proofs

/-- the lowest j bytes of x, the lowest first -/
def lows : Nat → Nat → List UInt8
  | 0, _ => []
  | j + 1, x => UInt8.ofNat x :: lows j (x / 256)

theorem lows_length (j x : Nat) : (lows j x).length = j := by
  induction j generalizing x with
  | zero => rfl
  | succ j ih => simp [lows, ih]

theorem lows_get (j x i : Nat) (h : i < j) : (lows j x)[i]? = some (UInt8.ofNat (x / 256 ^ i)) := by
  induction j generalizing x i with
  | zero => omega
  | succ j ih =>
    cases i with
    | zero => simp [lows]
    | succ i =>
      rw [lows, List.getElem?_cons_succ, ih (x / 256) i (by omega), Nat.div_div_eq_div_mul, Nat.pow_succ, Nat.mul_comm]

theorem little_lows (j x : Nat) : little (lows j x) = x % 256 ^ j := by
  induction j generalizing x with
  | zero => simp [lows, little, Nat.mod_one]
  | succ j ih =>
    rw [lows, little, ih, UInt8.toNat_ofNat']
    have e : x % (256 * 256 ^ j) = x % 256 + 256 * (x / 256 % 256 ^ j) := Nat.mod_mul
    rw [Nat.pow_succ (n := 256), Nat.mul_comm (256 ^ j), e]

theorem little_zero {l : List UInt8} (h : little l = 0) : ∀ c ∈ l, c = 0 := by
  induction l with
  | nil => simp
  | cons a l ih =>
    rw [little] at h
    intro c hc
    rcases List.mem_cons.1 hc with rfl | hc
    · exact UInt8.toNat_inj.1 (by show _ = 0; omega)
    · exact ih (by omega) c hc

theorem xorL_length (l m : List UInt8) (h : l.length = m.length) : (xorL l m).length = l.length := by
  induction l generalizing m with
  | nil => rfl
  | cons a l ih =>
    cases m with
    | nil => simp at h
    | cons b m => simp [xorL, ih m (by simpa using h)]

theorem xorL_get (l m : List UInt8) (i : Nat) (a b : UInt8) (ha : l[i]? = some a) (hb : m[i]? = some b) : (xorL l m)[i]? = some (a ^^^ b) := by
  induction l generalizing m i with
  | nil => simp at ha
  | cons c l ih =>
    cases m with
    | nil => simp at hb
    | cons d m =>
      cases i with
      | zero => simp at ha hb; simp [xorL, ha, hb]
      | succ i => simpa [xorL] using ih m i (by simpa using ha) (by simpa using hb)

/-- what differs in a window, by the bytes of x, is told by the sum -/
theorem window_told (D : List UInt8) (K j x s y : Nat) (hKj : K + j ≤ D.length) (hin : ∀ i, K ≤ i → i < K + j → D[i]? = some (UInt8.ofNat (x / 256 ^ (i - K))))
    (hout : ∀ i, i < D.length → (i < K ∨ K + j ≤ i) → D[i]? = some 0) (hx : x % 256 ^ j = 2 ^ s * y) (hy : y < 4294967296) (hy0 : y ≠ 0) (hs : s ≤ 8 * j) : crcRun 0 D ≠ 0 := by
  have e : D = List.replicate K 0 ++ lows j x ++ List.replicate (D.length - K - j) 0 := by
    apply List.ext_getElem?
    intro i
    by_cases h1 : i < K
    · rw [hout i (by omega) (Or.inl h1), List.append_assoc, List.getElem?_append_left (by simpa using h1)]
      simp [h1]
    · by_cases h2 : i < K + j
      · rw [hin i (by omega) h2, List.append_assoc, List.getElem?_append_right (by simp; omega), List.length_replicate, List.getElem?_append_left (by rw [lows_length]; omega), lows_get _ _ _ (by omega)]
      · by_cases h3 : i < D.length
        · rw [hout i h3 (Or.inr (by omega)), List.getElem?_append_right (by simp [lows_length]; omega)]
          simp [lows_length, List.getElem?_replicate]
          omega
        · rw [List.getElem?_eq_none (by omega), List.getElem?_eq_none (by simp [lows_length]; omega)]
  rw [e]
  refine burst _ _ _ (by simp) (by simp) y s hy hy0 (by rw [lows_length]; exact hs) ?_
  rw [little_lows, hx]

/-- l', beside l: the j bytes from k on are turned by the bytes of x -/
def Spoilt (l : List UInt8) (k j x : Nat) (l' : List UInt8) : Prop :=
  l'.length = l.length ∧ ∀ i (h : i < l.length) (h' : i < l'.length), l'[i] = if k ≤ i ∧ i < k + j then l[i] ^^^ UInt8.ofNat (x / 256 ^ (i - k)) else l[i]

theorem Spoilt.zero (l : List UInt8) (k x : Nat) : Spoilt l k 0 x l := ⟨rfl, fun i h h' => by rw [if_neg (by omega)]⟩

theorem Spoilt.step {l l' : List UInt8} {k j x : Nat} (h : Spoilt l k j x l') (hk : k + j < l'.length) : Spoilt l k (j + 1) x (l'.set (k + j) (l'[k + j] ^^^ UInt8.ofNat (x / 256 ^ j))) := by
  obtain ⟨h1, h2⟩ := h
  refine ⟨by simp [h1], fun i hi hi' => ?_⟩
  rw [List.getElem_set]
  split
  · next e =>
    subst e
    rw [h2 _ hi hk, if_neg (by omega), if_pos (by omega), show k + j - k = j by omega]
  · next e =>
    rw [h2 i hi (by omega)]
    by_cases hc : k ≤ i ∧ i < k + j
    · rw [if_pos hc, if_pos (by omega)]
    · rw [if_neg hc, if_neg (by omega)]

theorem xor_same (a : UInt8) : a ^^^ a = 0 := by simp

theorem take_drop_get {α : Type} (l : List α) (a n i : Nat) (h : i < n) (h2 : a + i < l.length) : ((l.drop a).take n)[i]? = some l[a + i] := by
  rw [List.getElem?_take, if_pos h, List.getElem?_drop, List.getElem?_eq_getElem h2]

/-- what is the same from a on, n places far, is the same cut -/
theorem cut_same {l l' : List UInt8} {k j x : Nat} (h : Spoilt l k j x l') (a n : Nat) (hd : a + n ≤ k ∨ k + j ≤ a) : (l'.drop a).take n = (l.drop a).take n := by
  apply List.ext_getElem?
  intro i
  by_cases hi : i < n
  · by_cases h2 : a + i < l.length
    · have h3 : a + i < l'.length := by rw [h.1]; exact h2
      rw [take_drop_get _ _ _ _ hi h2, take_drop_get _ _ _ _ hi h3, h.2 _ h2 h3, if_neg (by omega)]
    · rw [List.getElem?_eq_none (by rw [List.length_take, List.length_drop, h.1]; omega), List.getElem?_eq_none (by rw [List.length_take, List.length_drop]; omega)]
  · rw [List.getElem?_eq_none (by rw [List.length_take]; omega), List.getElem?_eq_none (by rw [List.length_take]; omega)]

theorem spoilt_noFrame {g k : Nat} {p f' : List UInt8} {a j x s y : Nat} (hg : g ≤ 1099511627776) (hk : k ≤ 2147483647) (hp : p.length ≤ 65536)
    (h : Spoilt (sealB g k p) a j x f') (hw : (1 ≤ a ∧ a + j ≤ 13) ∨ (21 ≤ a ∧ a + j ≤ p.length + 21)) (hx : x % 256 ^ j = 2 ^ s * y) (hy : y < 4294967296) (hy0 : y ≠ 0) (hs : s ≤ 8 * j) : ¬ isFrame f' := by
  intro hf
  obtain ⟨f, hfd⟩ : ∃ f, f = sealB g k p := ⟨_, rfl⟩
  rw [← hfd] at h
  have hfl : f.length = p.length + 21 := by rw [hfd, sealB_length]
  have hfl' : f'.length = p.length + 21 := by rw [h.1, hfl]
  have hfr : isFrame f := by have := isFrame_seal (g := g) (k := k) [] hg hk hp; rwa [List.append_nil, ← hfd] at this
  have hsz : fSize f = p.length := by have := fSize_seal (g := g) (k := k) [] hp; rwa [List.append_nil, ← hfd] at this
  have hsz' : fSize f' = fSize f := by unfold fSize; rw [cut_same h 13 4 (by omega)]
  have hsum' : fSum f' = fSum f := by unfold fSum fSumB; rw [cut_same h 17 4 (by omega)]
  have e1 := hf.2.2.2.2.2.2
  have e2 := hfr.2.2.2.2.2.2
  rw [hsum', ← e2] at e1
  have hh : (fHead f).length = 16 := by unfold fHead; rw [List.length_take, List.length_drop]; omega
  have hh' : (fHead f').length = 16 := by unfold fHead; rw [List.length_take, List.length_drop]; omega
  have hb : (fBody f).length = p.length := by unfold fBody; rw [List.length_take, List.length_drop, hsz]; omega
  have hb' : (fBody f').length = p.length := by unfold fBody; rw [List.length_take, List.length_drop, hsz', hsz]; omega
  have hlen : (fHead f' ++ fBody f').length = (fHead f ++ fBody f).length := by simp [hh, hh', hb, hb']
  rw [crc_eq_iff hlen] at e1
  have hDl : (xorL (fHead f' ++ fBody f') (fHead f ++ fBody f)).length = 16 + p.length := by rw [xorL_length _ _ hlen]; simp [hh', hb']
  -- the message's byte i is the frame's byte i + 1, from 16 on i + 5
  have msg : ∀ (q : List UInt8), q.length = p.length + 21 → fSize q = p.length → ∀ i, i < 16 + p.length → ∀ (hi : (if i < 16 then i + 1 else i + 5) < q.length), (fHead q ++ fBody q)[i]? = some q[if i < 16 then i + 1 else i + 5] := by
    intro q hq hqs i hi hi2
    have hhq : (fHead q).length = 16 := by unfold fHead; rw [List.length_take, List.length_drop]; omega
    by_cases h16 : i < 16
    · rw [List.getElem?_append_left (by omega)]
      unfold fHead
      rw [take_drop_get _ _ _ _ h16 (by omega)]
      simp [h16, Nat.add_comm]
    · rw [List.getElem?_append_right (by omega), hhq]
      unfold fBody
      rw [take_drop_get _ _ _ _ (by omega) (by omega)]
      simp only [h16, if_false]
      congr 2
      omega
  have D : ∀ i, i < 16 + p.length → (xorL (fHead f' ++ fBody f') (fHead f ++ fBody f))[i]? = some (if a ≤ (if i < 16 then i + 1 else i + 5) ∧ (if i < 16 then i + 1 else i + 5) < a + j then UInt8.ofNat (x / 256 ^ ((if i < 16 then i + 1 else i + 5) - a)) else 0) := by
    intro i hi
    have hi2 : (if i < 16 then i + 1 else i + 5) < p.length + 21 := by split <;> omega
    obtain ⟨n, hn⟩ : ∃ n, n = (if i < 16 then i + 1 else i + 5) := ⟨_, rfl⟩
    have m1 := msg f' hfl' (by rw [hsz', hsz]) i hi (by omega)
    have m2 := msg f hfl hsz i hi (by omega)
    rw [xorL_get _ _ _ _ _ m1 m2]
    simp only [← hn]
    rw [← hn] at hi2
    rw [h.2 n (by omega) (by omega)]
    split
    · congr 1
      rw [UInt8.xor_comm, ← UInt8.xor_assoc, xor_same, UInt8.zero_xor]
    · rw [xor_same]
  rcases hw with ⟨w1, w2⟩ | ⟨w1, w2⟩
  · refine window_told _ (a - 1) j x s y (by rw [hDl]; omega) ?_ ?_ hx hy hy0 hs e1
    · intro i h1 h2
      rw [D i (by omega), if_pos (show i < 16 by omega), if_pos (by omega), show i + 1 - a = i - (a - 1) by omega]
    · intro i h1 h2
      rw [hDl] at h1
      rw [D i h1]
      split
      · rw [if_neg (by omega)]
      · rw [if_neg (by omega)]
  · refine window_told _ (a - 5) j x s y (by rw [hDl]; omega) ?_ ?_ hx hy hy0 hs e1
    · intro i h1 h2
      rw [D i (by omega), if_neg (show ¬ i < 16 by omega), if_pos (by omega), show i + 5 - a = i - (a - 5) by omega]
    · intro i h1 h2
      rw [hDl] at h1
      rw [D i h1]
      split
      · rw [if_neg (by omega)]
      · rw [if_neg (by omega)]

/-- the bits that stay within j bytes -/
theorem bits_in (bits s j : Nat) (hb : bits < 4294967296) (hs : s ≤ 7) (h1 : 1 ≤ j) : ∃ y, (bits * 2 ^ s) % 256 ^ j = 2 ^ s * y ∧ y < 4294967296 := by
  refine ⟨bits % 2 ^ (8 * j - s), ?_, Nat.lt_of_le_of_lt (Nat.mod_le _ _) hb⟩
  have e : 256 ^ j = 2 ^ s * 2 ^ (8 * j - s) := by
    rw [← Nat.pow_add, show s + (8 * j - s) = 8 * j by omega, Nat.pow_mul]
  rw [e, Nat.mul_comm bits, Nat.mul_mod_mul_left]

/-- some byte is not zero: so they are not all -/
theorem lows_ne {j x i : Nat} (hi : i < j) (h : UInt8.ofNat (x / 256 ^ i) ≠ 0) : x % 256 ^ j ≠ 0 := by
  intro e
  have h0 := little_zero (l := lows j x) (by rw [little_lows, e])
  exact h (h0 _ (List.mem_of_getElem? (lows_get j x i hi)))

end Cam
