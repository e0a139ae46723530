/- Several small texts in one: Crc, Be. No condition. -/
namespace Cam
def poly : Nat := 3988292384
def tbit (s : Nat) : Nat := if s % 2 = 1 then (s / 2) ^^^ poly else s / 2
def tbits : Nat → Nat → Nat
 | 0, s => s
 | k + 1, s => tbits k (tbit s)
def feed (s c : Nat) : Nat := tbits 8 (s ^^^ c)
def crcRun (s : Nat) (l : List UInt8) : Nat := l.foldl (fun s c => feed s c.toNat) s
def crc (l : List UInt8) : Nat := crcRun 4294967295 l ^^^ 4294967295
theorem crcRun_cons (s : Nat) (c : UInt8) (l : List UInt8) : crcRun s (c :: l) = crcRun (feed s c.toNat) l := rfl
theorem crcRun_append (s : Nat) (l m : List UInt8) : crcRun s (l ++ m) = crcRun (crcRun s l) m := by simp [crcRun]
theorem crcRun_snoc (s : Nat) (l : List UInt8) (c : UInt8) : crcRun s (l ++ [c]) = feed (crcRun s l) c.toNat := by simp [crcRun]
theorem tbits_succ' (k s : Nat) : tbits (k + 1) s = tbit (tbits k s) := by
 induction k generalizing s with
 | zero => rfl
 | succ k ih => rw [tbits, ih, tbits]
theorem tbits_add (j k s : Nat) : tbits (j + k) s = tbits k (tbits j s) := by
 induction j generalizing s with
 | zero => simp [tbits]
 | succ j ih => rw [Nat.succ_add, tbits, ih, tbits]
theorem xor_lt32 {a b : Nat} (ha : a < 4294967296) (hb : b < 4294967296) : a ^^^ b < 4294967296 :=
 Nat.xor_lt_two_pow (n := 32) ha hb
theorem tbit_lt {s : Nat} (h : s < 4294967296) : tbit s < 4294967296 := by
 unfold tbit
 split
 ·
  exact xor_lt32 (by omega) (by decide)
 ·
  omega
theorem tbits_lt {s : Nat} (k : Nat) (h : s < 4294967296) : tbits k s < 4294967296 := by
 induction k generalizing s with
 | zero => exact h
 | succ k ih => exact ih (tbit_lt h)
theorem feed_lt {s c : Nat} (h : s < 4294967296) (hc : c < 4294967296) : feed s c < 4294967296 := tbits_lt 8 (xor_lt32 h hc)
theorem crcRun_lt {s : Nat} (l : List UInt8) (h : s < 4294967296) : crcRun s l < 4294967296 := by
 induction l generalizing s with
 | nil => exact h
 | cons c l ih => exact ih (feed_lt h (by have := c.toNat_lt; omega))
theorem crc_lt (l : List UInt8) : crc l < 4294967296 := xor_lt32 (crcRun_lt l (by decide)) (by decide)
theorem xor_mod2 (a b : Nat) : (a ^^^ b) % 2 = (a + b) % 2 := by
 have h := @Nat.xor_mod_two_pow a b 1
 simp only [Nat.pow_one] at h
 rw [h]
 rcases Nat.mod_two_eq_zero_or_one a with ha | ha <;> rcases Nat.mod_two_eq_zero_or_one b with hb | hb <;> rw [ha, hb] <;> simp <;> omega
theorem tbit_xor (a b : Nat) : tbit (a ^^^ b) = tbit a ^^^ tbit b := by
 have h2 : (a ^^^ b) % 2 = (a + b) % 2 := xor_mod2 a b
 have hd : (a ^^^ b) / 2 = a / 2 ^^^ b / 2 := Nat.xor_div_two
 unfold tbit
 rw [h2, hd]
 rcases Nat.mod_two_eq_zero_or_one a with ha | ha <;> rcases Nat.mod_two_eq_zero_or_one b with hb | hb
 ·
  rw [if_neg (by omega), if_neg (by omega), if_neg (by omega)]
 ·
  rw [if_pos (by omega), if_neg (by omega), if_pos hb, Nat.xor_assoc]
 ·
  rw [if_pos (by omega), if_pos ha, if_neg (by omega), Nat.xor_assoc, Nat.xor_assoc, Nat.xor_comm (b / 2)]
 ·
  rw [if_neg (by omega), if_pos ha, if_pos hb]
  rw [Nat.xor_assoc, Nat.xor_comm (b / 2) poly, ← Nat.xor_assoc poly poly, Nat.xor_self, Nat.zero_xor]
theorem tbits_xor (k a b : Nat) : tbits k (a ^^^ b) = tbits k a ^^^ tbits k b := by
 induction k generalizing a b with
 | zero => rfl
 | succ k ih => rw [tbits, tbit_xor, ih, tbits, tbits]
theorem tbit_double (a : Nat) : tbit (2 * a) = a := by unfold tbit; rw [if_neg (by omega)]; omega
theorem tbits_shift (k a : Nat) : tbits k (2 ^ k * a) = a := by
 induction k generalizing a with
 | zero => simp [tbits]
 | succ k ih => rw [tbits, show 2 ^ (k + 1) * a = 2 * (2 ^ k * a) by rw [Nat.pow_succ]; ac_rfl, tbit_double, ih]
theorem split_xor (s k : Nat) : s = (s % 2 ^ k) ^^^ (2 ^ k * (s / 2 ^ k)) := by
 apply Nat.eq_of_testBit_eq
 intro i
 rw [Nat.testBit_xor, Nat.testBit_mod_two_pow, Nat.mul_comm, Nat.testBit_mul_two_pow]
 by_cases h : i < k
 ·
  simp [h, Nat.not_le.2 h]
 ·
  have hk : k ≤ i := Nat.le_of_not_lt h
  simp [h, hk, Nat.testBit_div_two_pow]
theorem feed_table (s c : Nat) : feed s c = tbits 8 ((s % 256) ^^^ c) ^^^ (s / 256) := by
 have h := split_xor s 8
 have e : s ^^^ c = ((s % 256) ^^^ c) ^^^ (256 * (s / 256)) := by
  conv => lhs; rw [h]
  simp only [Nat.reducePow]
  rw [Nat.xor_assoc, Nat.xor_comm (256 * _) c, ← Nat.xor_assoc]
 unfold feed
 rw [e, tbits_xor]
 have := tbits_shift 8 (s / 256)
 simp only [Nat.reducePow] at this
 rw [this]
/-! the reference's way: the byte's bits one by one -/
def refReg (s c k : Nat) : Nat := tbits k (s ^^^ c) ^^^ (c / 2 ^ k)
theorem refReg_zero (s c : Nat) : refReg s c 0 = s := by
 simp [refReg, tbits, Nat.xor_assoc]
theorem refReg_eight (s c : Nat) (hc : c < 256) : refReg s c 8 = feed s c := by
 simp [refReg, feed, Nat.div_eq_of_lt hc]
theorem refReg_step (s c k : Nat) : refReg s c (k + 1) = if (refReg s c k % 2 ^^^ (c / 2 ^ k) % 2) = 1 then (refReg s c k / 2) ^^^ poly else refReg s c k / 2 := by
 have e : tbits k (s ^^^ c) = refReg s c k ^^^ (c / 2 ^ k) := by simp [refReg, Nat.xor_assoc]
 have h1 : refReg s c (k + 1) = tbit (refReg s c k ^^^ (c / 2 ^ k)) ^^^ (c / 2 ^ (k + 1)) := by
  conv => lhs; unfold refReg; rw [tbits_succ', e]
 have hm : (refReg s c k ^^^ (c / 2 ^ k)) % 2 = (refReg s c k % 2 ^^^ (c / 2 ^ k) % 2) := by
  rw [xor_mod2]
  rcases Nat.mod_two_eq_zero_or_one (refReg s c k) with ha | ha <;> rcases Nat.mod_two_eq_zero_or_one (c / 2 ^ k) with hb | hb <;> rw [ha, hb] <;> simp <;> omega
 have hq : c / 2 ^ k / 2 = c / 2 ^ (k + 1) := by rw [Nat.div_div_eq_div_mul, Nat.pow_succ]
 rw [h1]
 unfold tbit
 rw [hm, Nat.xor_div_two, hq]
 split
 ·
  rw [Nat.xor_assoc, Nat.xor_assoc, Nat.xor_comm poly, ← Nat.xor_assoc (c / _), Nat.xor_self, Nat.zero_xor]
 ·
  rw [Nat.xor_assoc, Nat.xor_self, Nat.xor_zero]
/-! the register forgets nothing -/
theorem tbit_ne_zero {d : Nat} (hd : d < 4294967296) (h : d ≠ 0) : tbit d ≠ 0 := by
 unfold tbit
 split
 ·
  intro e
  have e2 : d / 2 = poly := by
   have := congrArg (· ^^^ poly) e
   simpa [Nat.xor_assoc] using this
  unfold poly at e2
  omega
 ·
  omega
theorem tbits_ne_zero (k : Nat) {d : Nat} (hd : d < 4294967296) (h : d ≠ 0) : tbits k d ≠ 0 := by
 induction k generalizing d with
 | zero => exact h
 | succ k ih => exact ih (tbit_lt hd) (tbit_ne_zero hd h)
/-! two messages of one length: what their registers differ by hangs on what they differ by alone -/
theorem crcRun_ne_zero (l : List UInt8) (hz : ∀ c ∈ l, c = 0) {d : Nat} (hd : d < 4294967296) (h : d ≠ 0) : crcRun d l ≠ 0 := by
 induction l generalizing d with
 | nil => exact h
 | cons c l ih =>
  rw [crcRun_cons, hz c (by simp)]
  refine ih (fun c hc => hz c (by simp [hc])) (feed_lt hd (by decide)) ?_
  show tbits 8 (d ^^^ 0) ≠ 0
  rw [Nat.xor_zero]
  exact tbits_ne_zero 8 hd h
theorem crcRun_zeros (l : List UInt8) (hz : ∀ c ∈ l, c = 0) : crcRun 0 l = 0 := by
 induction l with
 | nil => rfl
 | cons c l ih =>
  rw [crcRun_cons, hz c (by simp), show feed 0 (0 : UInt8).toNat = 0 from rfl]
  exact ih (fun c hc => hz c (by simp [hc]))
/-! ### a burst: bytes that hold, the lowest tbits first, a number x (of at most 32 tbits) behind s zero tbits -/
def little : List UInt8 → Nat
 | [] => 0
 | c :: l => c.toNat + 256 * little l
theorem crcRun_little (l : List UInt8) (s : Nat) : crcRun s l = tbits (8 * l.length) (s ^^^ little l) := by
 induction l generalizing s with
 | nil => simp [crcRun, tbits, little]
 | cons c l ih =>
  rw [crcRun_cons, ih, List.length_cons, show 8 * (l.length + 1) = 8 + 8 * l.length by omega, tbits_add, little]
  congr 1
  unfold feed
  have e : c.toNat + 256 * little l = c.toNat ^^^ (2 ^ 8 * little l) := by
   have h := split_xor (c.toNat + 256 * little l) 8
   have hc := c.toNat_lt
   have e1 : (c.toNat + 256 * little l) % 2 ^ 8 = c.toNat := by simp only [Nat.reducePow]; omega
   have e2 : (c.toNat + 256 * little l) / 2 ^ 8 = little l := by simp only [Nat.reducePow]; omega
   rw [e1, e2] at h
   exact h
  rw [e, ← Nat.xor_assoc, tbits_xor 8 (s ^^^ c.toNat), tbits_shift 8]
theorem burst (pre mid post : List UInt8) (hpre : ∀ c ∈ pre, c = 0) (hpost : ∀ c ∈ post, c = 0) (x s : Nat) (hx : x < 4294967296) (hx0 : x ≠ 0)
  (hs : s ≤ 8 * mid.length) (hm : little mid = 2 ^ s * x) : crcRun 0 (pre ++ mid ++ post) ≠ 0 := by
 rw [crcRun_append, crcRun_append, crcRun_zeros pre hpre]
 have e : crcRun 0 mid ≠ 0 ∧ crcRun 0 mid < 4294967296 := by
  refine ⟨?_, crcRun_lt _ (by decide)⟩
  rw [crcRun_little, Nat.zero_xor, hm]
  obtain ⟨r, hr⟩ : ∃ r, 8 * mid.length = s + r := ⟨8 * mid.length - s, by omega⟩
  rw [hr, tbits_add, tbits_shift]
  exact tbits_ne_zero _ hx hx0
 exact crcRun_ne_zero post hpost e.2 e.1
end Cam
namespace Cam
theorem take_snoc {α : Type} (l : List α) (k : Nat) (h : k < l.length) : l.take (k + 1) = l.take k ++ [l[k]] := by
 rw [List.take_succ_eq_append_getElem h]
def unbe (l : List UInt8) : Nat := l.foldl (fun x c => x * 256 + c.toNat) 0
theorem unbe_snoc (l : List UInt8) (c : UInt8) : unbe (l ++ [c]) = unbe l * 256 + c.toNat := by simp [unbe]
theorem unbe_foldl (m : List UInt8) (x : Nat) : m.foldl (fun x c => x * 256 + c.toNat) x = x * 256 ^ m.length + unbe m := by
 induction m generalizing x with
 | nil => simp [unbe]
 | cons c m ih =>
  have e : unbe (c :: m) = c.toNat * 256 ^ m.length + unbe m := by
   have := ih (0 * 256 + c.toNat)
   simpa [unbe] using this
  rw [List.foldl_cons, ih, List.length_cons, e, Nat.pow_succ, Nat.add_mul]
  have : x * 256 * 256 ^ m.length = x * (256 ^ m.length * 256) := by ac_rfl
  omega
theorem unbe_cons (c : UInt8) (l : List UInt8) : unbe (c :: l) = c.toNat * 256 ^ l.length + unbe l := by
 conv => lhs; unfold unbe
 rw [List.foldl_cons, unbe_foldl]
 simp
theorem unbe_lt (l : List UInt8) : unbe l < 256 ^ l.length := by
 induction l with
 | nil => simp [unbe]
 | cons c l ih =>
  rw [unbe_cons, List.length_cons, Nat.pow_succ]
  have h1 := c.toNat_lt
  have h2 := Nat.mul_le_mul_right (256 ^ l.length) (show c.toNat ≤ 255 by omega)
  omega
def be : Nat → Nat → List UInt8
 | 0, _ => []
 | k + 1, n => UInt8.ofNat (n / 256 ^ k) :: be k n
theorem be_length (k n : Nat) : (be k n).length = k := by
 induction k with
 | zero => rfl
 | succ k ih => simp [be, ih]
theorem unbe_be (k n : Nat) : unbe (be k n) = n % 256 ^ k := by
 induction k with
 | zero => simp [be, unbe, Nat.mod_one]
 | succ k ih =>
  have e : n % (256 ^ k * 256) = n % 256 ^ k + 256 ^ k * (n / 256 ^ k % 256) := Nat.mod_mul
  rw [be, unbe_cons, be_length, ih, UInt8.toNat_ofNat', Nat.pow_succ (n := 256), e]
  simp only [Nat.reducePow]
  rw [Nat.add_comm, Nat.mul_comm]
theorem unbe_be_of_lt {k n : Nat} (h : n < 256 ^ k) : unbe (be k n) = n := by rw [unbe_be, Nat.mod_eq_of_lt h]
theorem pow256_le {k : Nat} (h : k ≤ 7) : 256 ^ k ≤ 72057594037927936 := Nat.pow_le_pow_right (n := 256) (by decide) h
end Cam
