import Derived.Test.YtgeclnjkkjmbaaaGreatVa
import Derived.Test.YtgeclnjkkjmbaaaGreatRowIz
/- what pack.Reader.Int computes, bit by bit. No program's step in sight. -/
namespace Cam
open Go Go.RowKit
set_option linter.unusedVariables false
set_option linter.unusedSimpArgs false
set_option maxHeartbeats 1600000
theorem or_shift (z x k : Nat) (hz : z < 128 ^ k) (hk : k ≤ 9) (hx : x < 256) (h9 : k = 9 → x ≤ 1) :
  bits .or .u64 (z : Int) (IntKind.u64.wrap (IntKind.u64.wrap (bits .and .u8 (x : Int) 127) * 2 ^ (7 * k))) = ((z + x % 128 * 128 ^ k : Nat) : Int) := by
 have h1 : ∀ y : Fin 256, (y.val &&& 127) = y.val % 128 := by decide +kernel
 have e1 : bits .and .u8 (x : Int) 127 = ((x % 128 : Nat) : Int) := by
  refine (u8_and_nat x 127 hx (by decide)).trans ?_
  rw [h1 ⟨x, hx⟩]
 have e2 : (2 : Nat) ^ (7 * k) = 128 ^ k := by rw [Nat.pow_mul]
 have hm : x % 128 * 128 ^ k < 18446744073709551616 := by
  by_cases h : k = 9
  ·
   have h3 := h9 h
   subst h
   have h4 : x % 128 ≤ 1 := by omega
   have h5 := Nat.mul_le_mul_right (128 ^ 9) h4
   omega
  ·
   have h4 : 128 ^ k ≤ 128 ^ 8 := Nat.pow_le_pow_right (by omega) (by omega)
   have h5 := Nat.mul_le_mul (by omega : x % 128 ≤ 127) h4
   omega
 have e3 : IntKind.u64.wrap (IntKind.u64.wrap (bits .and .u8 (x : Int) 127) * 2 ^ (7 * k)) = ((x % 128 * 128 ^ k : Nat) : Int) := by
  rw [e1]
  have e4 : ((2 : Int) ^ (7 * k)) = (((128 ^ k : Nat)) : Int) := by rw [← e2]; push_cast; rfl
  rw [e4]
  simp only [IntKind.wrap_u64]
  rw [show ((x % 128 : Nat) : Int) % 18446744073709551616 = ((x % 128 : Nat) : Int) by omega, ← Int.natCast_mul]
  generalize x % 128 * 128 ^ k = y at hm
  omega
 have hz64 : z < 18446744073709551616 := by
  have : 128 ^ k ≤ 128 ^ 9 := Nat.pow_le_pow_right (by omega) hk
  omega
 rw [e3]
 refine (u64_or_nat _ _ hz64 hm).trans ?_
 congr 1
 have := Nat.two_pow_add_eq_or_of_lt (i := 7 * k) (b := z) (by rw [e2]; exact hz) (x % 128)
 rw [e2] at this
 rw [Nat.or_comm, Nat.mul_comm, ← this]
 exact Nat.add_comm _ _
theorem xor_neg1 (x : Nat) (h : x < 9223372036854775808) : bits .xor .i64 (x : Int) (-1) = -(x : Int) - 1 := by
 have h2 : (BitVec.ofInt 64 (x : Int)).toNat = x := by
  rw [BitVec.ofInt_natCast, BitVec.toNat_ofNat]; exact Nat.mod_eq_of_lt (by omega)
 have h1 : BitVec.ofInt 64 (-1) = BitVec.allOnes 64 := by decide
 show IntKind.i64.wrap ((BitVec.ofInt 64 (x : Int) ^^^ BitVec.ofInt 64 (-1)).toNat : Int) = _
 rw [h1, BitVec.xor_allOnes, BitVec.toNat_not, h2, IntKind.wrap_i64]
 omega
theorem xor_zero (x : Nat) (h : x < 9223372036854775808) : bits .xor .i64 (x : Int) 0 = (x : Int) := by
 have h2 : (BitVec.ofInt 64 (x : Int)).toNat = x := by
  rw [BitVec.ofInt_natCast, BitVec.toNat_ofNat]; exact Nat.mod_eq_of_lt (by omega)
 have h1 : BitVec.ofInt 64 0 = 0#64 := by decide
 show IntKind.i64.wrap ((BitVec.ofInt 64 (x : Int) ^^^ BitVec.ofInt 64 0).toNat : Int) = _
 rw [h1, BitVec.xor_zero, h2, IntKind.wrap_i64]
 omega
theorem zag_bits (z : Nat) (h : z < 18446744073709551616) : bits .xor .i64 (wrap64 ((z : Int) / 2)) (wrap64 (-wrap64 (bits .and .u64 (z : Int) 1))) = zag z := by
 have e1 : bits .and .u64 (z : Int) 1 = ((z % 2 : Nat) : Int) := by
  refine (u64_and_nat z 1 h (by decide)).trans ?_
  rw [Nat.and_one_is_mod]
 have e2 : wrap64 ((z : Int) / 2) = ((z / 2 : Nat) : Int) := by unfold wrap64; omega
 rw [e1, e2]
 by_cases hz : z % 2 = 1
 ·
  have e3 : wrap64 (-wrap64 ((z % 2 : Nat) : Int)) = -1 := by unfold wrap64; omega
  rw [e3, xor_neg1 _ (by omega)]
  unfold zag
  rw [if_pos hz]
 ·
  have e3 : wrap64 (-wrap64 ((z % 2 : Nat) : Int)) = 0 := by unfold wrap64; omega
  rw [e3, xor_zero _ (by omega)]
  unfold zag
  rw [if_neg hz]
theorem vdec_end {k m z : Nat} {l : List UInt8} (h : l.length ≤ k) (L : List UInt8) (hL : L = l.drop k) : vdec k m z L = none := by
 rw [hL, List.drop_of_length_le h, vdec]
theorem drop_cons {k : Nat} {l : List UInt8} (h : k < l.length) : l.drop k = l[k] :: l.drop (k + 1) := by rw [List.drop_eq_getElem_cons h]
theorem vdec_low {k m z : Nat} {l : List UInt8} (h : k < l.length) (h9 : k = 9 → l[k].toNat ≤ 1) (hc : l[k].toNat < 128) (h0 : l[k].toNat ≠ 0 ∨ k = 0) : vdec k m z (l.drop k) = some (z + l[k].toNat % 128 * m, k + 1) := by
 rw [drop_cons h, vdec, if_neg (by omega), if_pos hc, if_neg (by omega), Nat.mod_eq_of_lt hc]
theorem vdec_nine {k m z : Nat} {l : List UInt8} (h : k < l.length) (h9 : k = 9) (hc : 1 < l[k].toNat) : vdec k m z (l.drop k) = none := by
 rw [drop_cons h, vdec, if_pos ⟨h9, hc⟩]
theorem vdec_zero {k m z : Nat} {l : List UInt8} (h : k < l.length) (h0 : l[k].toNat = 0) (hk : 0 < k) : vdec k m z (l.drop k) = none := by
 rw [drop_cons h, vdec, if_neg (by omega), if_pos (by omega), if_pos ⟨h0, hk⟩]
theorem vdec_more {k z : Nat} {l : List UInt8} (h : k < l.length) (h9 : k ≠ 9) (hc : 128 ≤ l[k].toNat) : vdec k (128 ^ k) z (l.drop k) = vdec (k + 1) (128 ^ (k + 1)) (z + l[k].toNat % 128 * 128 ^ k) (l.drop (k + 1)) := by
 have := l[k].toNat_lt
 rw [drop_cons h, vdec, if_neg (by omega), if_neg (by omega), if_neg h9, show l[k].toNat - 128 = l[k].toNat % 128 by omega, Nat.pow_succ]
theorem acc_lt {k z x : Nat} (hz : z < 128 ^ k) : z + x % 128 * 128 ^ k < 128 ^ (k + 1) := by
 have h2 := Nat.mul_le_mul_right (128 ^ k) (by omega : x % 128 ≤ 127)
 rw [Nat.pow_succ]
 omega
theorem acc_lt64 {k z x : Nat} (hz : z < 128 ^ k) (hk : k ≤ 9) (h9 : k = 9 → x ≤ 1) : z + x % 128 * 128 ^ k < 18446744073709551616 := by
 by_cases h : k = 9
 ·
  have h3 := h9 h
  subst h
  have h5 := Nat.mul_le_mul_right (128 ^ 9) (by omega : x % 128 ≤ 1)
  omega
 ·
  have h4 : 128 ^ (k + 1) ≤ 128 ^ 9 := Nat.pow_le_pow_right (by omega) (by omega)
  have := acc_lt (x := x) hz
  omega
end Cam
/- pack.Reader: its state, in memory; fail, NewReader, Done. -/
namespace Cam
open Go Go.RowKit Go.Proofs
set_option linter.unusedVariables false
set_option linter.unusedSimpArgs false
set_option maxHeartbeats 1600000
abbrev RS := List UInt8 × Int
def rI (s : RS) : Int × RS := if s.2 ≠ 0 then (0, s) else match vdec 0 1 0 s.1 with | some (z, k) => (zag z, (s.1.drop k, 0)) | none => (0, (s.1, 4))
def rFail (s : RS) (e : Int) : RS := if s.2 = 0 then (s.1, e) else s
def rM (s : RS) : Bool × RS := if s.2 ≠ 0 then (false, s) else match s.1 with | [] => (false, ([], 4)) | c :: l => if 1 < c.toNat then (false, (c :: l, 4)) else (decide (c.toNat = 1), (l, 0))
def rT' (n : Int) (s : RS) : List UInt8 × RS :=
 if s.2 ≠ 0 then ([], s) else if 65536 < n then ([], (s.1, 5)) else if n < 0 ∨ (s.1.length : Int) < n then ([], (s.1, 4)) else (s.1.take n.toNat, (s.1.drop n.toNat, 0))
def rT (s : RS) : List UInt8 × RS := rT' (rI s).1 (rI s).2
def rD (s : RS) : Int := if s.2 = 0 then (if s.1.length = 0 then 0 else 4) else s.2
theorem Sl.kept {S : Nat → Prop} {w w' : World} {v : Value} {size n : Nat} {cs : List Value} (h : Sl w v size n cs) (hk : Kept S w w') (ha : ∀ k, inBlock v k → ¬ S k) : Sl w' v size n cs := by
 obtain ⟨h0, a, c, rfl, h1, h2, h3, h4⟩ := h
 refine ⟨h0, a, c, rfl, h1, h2, h3, fun ad had i u hu => ?_⟩
 have hc := h4 ad had i u hu
 subst had
 have hlt := World.block_lt_of_cell? w _ hc
 have hb : (ad.add i).block = ad.block := by unfold Addr.add; split <;> rfl
 unfold World.cell? at *
 rw [hk.block _ hlt (by rw [hb]; exact ha _ ⟨ad, n, c, rfl, rfl⟩)]
 exact hc
theorem Bs.kept {S : Nat → Prop} {w w' : World} {v : Value} {l : List UInt8} (h : Bs w v l) (hk : Kept S w w') (ha : ∀ k, inBlock v k → ¬ S k) : Bs w' v l := Sl.kept h hk ha
def RD (w : World) (g : Nat) (s : RS) : Prop := ∃ v, w.heap[g]? = some (.cells #[v, s.2] 223 (0, 0)) ∧ Bs w v s.1 ∧ ∀ k, inBlock v k → k < g
theorem RD.lt {w : World} {g : Nat} {s : RS} (h : RD w g s) : g < w.heap.size := by
 obtain ⟨v, h, _⟩ := h
 exact (Array.getElem?_eq_some_iff.1 h).1
theorem RD.below {w w' : World} {g : Nat} {s : RS} (h : RD w g s) (hb : Below w.heap.size w w') : RD w' g s := by
 have hlt := h.lt
 obtain ⟨v, h1, h2, h3⟩ := h
 exact ⟨v, (hb.block g hlt).trans h1, h2.mono hb, h3⟩
theorem RD.alloc {w : World} {g : Nat} {s : RS} (h : RD w g s) (o : Obj) : RD (w.alloc o) g s := h.below ((Below.refl _ _).alloc (Nat.le_refl _) o)
theorem RD.kept {S : Nat → Prop} {w w' : World} {g : Nat} {s : RS} (h : RD w g s) (hk : Kept S w w') (hS : ∀ k, k ≤ g → ¬ S k) : RD w' g s := by
 have hlt := h.lt
 obtain ⟨v, h1, h2, h3⟩ := h
 exact ⟨v, (hk.block g hlt (hS g (Nat.le_refl _))).trans h1, h2.kept hk (fun k hi => hS k (Nat.le_of_lt (h3 k hi))), h3⟩
theorem RD.cell {w : World} {g : Nat} {s : RS} (h : RD w g s) : ∃ a c, w.cell? ⟨g, 0, none⟩ = some (.slice a s.1.length c) ∧ w.cell? ⟨g, 1, none⟩ = some (.int .i64 s.2) ∧ w.frozen? ⟨g, 0, none⟩ = false ∧ w.frozen? ⟨g, 1, none⟩ = false ∧ Bs w (.slice a s.1.length c) s.1 ∧ (∀ k, inBlock (.slice a s.1.length c) k → k < g) ∧ s.1.length ≤ c ∧ c ≤ 9223372036854775807 ∧ w.heap[g]? = some (.cells #[.slice a s.1.length c, s.2] 223 (0, 0)) := by
 obtain ⟨v, h1, h2, h3⟩ := h
 obtain ⟨a, c, rfl, h4, h5⟩ := h2.shape
 refine ⟨a, c, ?_, ?_, ?_, ?_, h2, h3, h4, h5, h1⟩
 ·
  unfold World.cell?
  rw [h1]
  rfl
 ·
  unfold World.cell?
  rw [h1]
  rfl
 ·
  unfold World.frozen?
  rw [h1]
  rfl
 ·
  unfold World.frozen?
  rw [h1]
  rfl
theorem RD.setLeft {w : World} {g : Nat} {v v' : Value} {l : List UInt8} {e : Int} (h : w.heap[g]? = some (.cells #[v, e] 223 (0, 0))) (hl : Bs w v' l) (ha : ∀ k, inBlock v' k → k < g) : RD (w.setCell ⟨g, 0, none⟩ v') g (l, e) ∧ Kept (fun k => k = g) w (w.setCell ⟨g, 0, none⟩ v') := by
 have hk : Kept (fun k => k = g) w (w.setCell ⟨g, 0, none⟩ v') := (Kept.refl _ w).setCell _ _ rfl
 refine ⟨⟨v', ?_, hl.kept hk (fun k hi e => ?_), ha⟩, hk⟩
 ·
  rw [heap_setCell_same w g 0 _ _ v' h]
  rfl
 ·
  have := ha k hi
  omega
theorem RD.setBad {w : World} {g : Nat} {v : Value} {l : List UInt8} {e : Int} (e' : Int) (h : w.heap[g]? = some (.cells #[v, e] 223 (0, 0))) (hl : Bs w v l) (ha : ∀ k, inBlock v k → k < g) : RD (w.setCell ⟨g, 1, none⟩ (.int .i64 e')) g (l, e') ∧ Kept (fun k => k = g) w (w.setCell ⟨g, 1, none⟩ (.int .i64 e')) := by
 have hk : Kept (fun k => k = g) w (w.setCell ⟨g, 1, none⟩ (.int .i64 e')) := (Kept.refl _ w).setCell _ _ rfl
 refine ⟨⟨v, ?_, hl.kept hk (fun k hi e => ?_), ha⟩, hk⟩
 ·
  rw [heap_setCell_same w g 1 _ _ _ h]
  rfl
 ·
  have := ha k hi
  omega
theorem fail_any (w : World) (g : Nat) (s : RS) (e : Int) (h : RD w g s) : Calls Tryz.prog 133 #[.pointer (some ⟨g, 0, none⟩), e] w fun r w' => r = .returned (.tuple #[]) ∧ RD w' g (rFail s e) ∧ Kept (fun k => k = g) w w' := by
 obtain ⟨a, c, hc0, hc1, hf0, hf1, hl, ha, _, _, hh⟩ := h.cell
 by_cases hs : s.2 = 0
 ·
  have hset := RD.setBad e hh hl ha
  have e1 : rFail s e = (s.1, e) := by unfold rFail; rw [if_pos hs]
  rw [e1]
  rw [hs] at hc1
  have HS := Lh hset
  clear hset hs e1 hh
  go_in
  go_wp2_with fail
  go_end0
  exact ⟨rfl, HS.out.1, HS.out.2⟩
 ·
  have e1 : rFail s e = s := by unfold rFail; rw [if_neg hs]
  rw [e1]
  have hd : decide (s.2 = 0) = false := by simp [hs]
  go_in
  go_wp2_with fail
  go_end0
  exact ⟨rfl, h, Kept.refl _ _⟩
theorem Done_any (w : World) (g : Nat) (s : RS) (h : RD w g s) : Calls Tryz.prog 94 #[.pointer (some ⟨g, 0, none⟩)] w fun r w' => r = .returned (.int .i64 (rD s)) ∧ w = w' := by
 obtain ⟨a, c, hc0, hc1, hf0, hf1, hl, ha, _, _, hh⟩ := h.cell
 by_cases hs : s.2 = 0
 ·
  rw [hs] at hc1
  by_cases hlen : s.1.length = 0
  ·
   have e1 : rD s = 0 := by unfold rD; rw [if_pos hs, if_pos hlen]
   rw [e1]
   rw [hlen] at hc0
   go_in
   go_wp2_with fail
   go_ret
   exact ⟨rfl, rfl⟩
  ·
   have e1 : rD s = 4 := by unfold rD; rw [if_pos hs, if_neg hlen]
   rw [e1]
   have hli : (0 : Int) < (s.1.length : Int) := by omega
   have hln : 0 < s.1.length := by omega
   go_in
   go_wp2_with fail
   go_ret
   exact ⟨rfl, rfl⟩
 ·
  have e1 : rD s = s.2 := by unfold rD; rw [if_neg hs]
  rw [e1]
  have hd : decide (s.2 = 0) = false := by simp [hs]
  go_in
  go_wp2_with fail
  go_ret
  exact ⟨rfl, rfl⟩
theorem inBlock_own {v : Value} {k : Nat} (h : inBlock v k) : v.ownBlock = some k := by
 obtain ⟨ad, n, c, rfl, rfl⟩ := h
 rfl
theorem NewReader_any (w : World) (v : Value) (l : List UInt8) (h : Bs w v l) (hlen : l.length ≤ 70368744177664) : Calls Tryz.prog 72 #[v] w fun e w' => ∃ g, e = .returned (.pointer (some ⟨g, 0, none⟩)) ∧ w.heap.size ≤ g ∧ RD w' g (l, 0) ∧ Below w.heap.size w w' := by
 obtain ⟨a, c, rfl, hc, hm⟩ := h.shape
 go_in
 go_wp2_with (first | (at_builtin; refine wpList_append_bytes rfl (.tmp 3) (.tmp 4) 42 rfl (l := []) (m := l) (base := w.heap.size) elem_byte rfl rfl (OwnB.lit0 rfl) (h.alloc _) (by simp; omega) (by simp) ?_; intro a' n' c' w' Hn' ho' hb' hg'))
 go_ret
 have hsz := hb'.size
 simp at hsz
 refine ⟨w'.heap.size, rfl, by omega, ⟨_, heap_new rfl, (OwnB.alloc ho' _).bs, fun k hk => ?_⟩, ((Bn).trans hb').alloc (by omega) _⟩
 exact ho'.lt k (inBlock_own hk)
end Cam
/- pack.Reader: Int. -/
namespace Cam
open Go Go.RowKit Go.Proofs
set_option linter.unusedVariables false
set_option linter.unusedSimpArgs false
set_option maxHeartbeats 1600000
set_option maxRecDepth 100000 in
theorem RInt_any (w : World) (g : Nat) (s : RS) (h : RD w g s) (hlen : s.1.length ≤ 70368744177664) : Calls Tryz.prog 111 #[.pointer (some ⟨g, 0, none⟩)] w fun r w' => r = .returned (.int .i64 (rI s).1) ∧ RD w' g (rI s).2 ∧ Kept (fun k => k = g) w w' := by
 obtain ⟨a, c, hc0, hc1, hf0, hf1, hl, ha, hlc, hcm, hh⟩ := h.cell
 obtain ⟨l, e⟩ := s
 simp only at hc0 hc1 hl ha hlc hh hlen
 by_cases he : e = 0
 ·
  subst he
  have hf := fail_any w g (l, 0) 4 h
  rw [show rFail (l, 0) 4 = (l, 4) by simp [rFail]] at hf
  have HF := Lh hf
  clear hf
  have Hh := Lh hh
  have Hl := Lh hl
  clear h hh
  go_in
  go_wp2_with fail
  go_loopw [3, 16] (fun zz i wr => ∃ k z : Nat, k ≤ l.length ∧ k ≤ 9 ∧ zz = .int .u64 z ∧ i = .int .i64 k ∧ Hid (z < 128 ^ k) ∧ Hid (vdec 0 1 0 l = vdec k (128 ^ k) z (l.drop k)) ∧ w = wr) (fun _ i _ => l.length - (intOf i).toNat)
  case atStart => exact ⟨0, 0, Nat.zero_le _, by omega, rfl, rfl, (by decide : 0 < 128 ^ 0), rfl, rfl⟩
  case round =>
   obtain ⟨k, z, hk, hk9, rfl, rfl, Hz, Hv, rfl⟩ := hrel
   by_cases hlt : k < l.length
   ·
    obtain ⟨b, off, rfl, _, hc⟩ := hl.at (by omega)
    have hck := hc k hlt
    clear hc
    have hxu := l[k].toNat_lt
    have hvl := fun h9 hx h0 => vdec_low (m := 128 ^ k) (z := z) hlt h9 hx h0
    have hv9 := fun h9 hx => vdec_nine (m := 128 ^ k) (z := z) hlt h9 hx
    have hv0 := fun h0 hp => vdec_zero (m := 128 ^ k) (z := z) hlt h0 hp
    have hvm := fun h9 hx => vdec_more (z := z) hlt h9 hx
    obtain ⟨x, hx⟩ : ∃ x, x = l[k].toNat := ⟨_, rfl⟩
    rw [← hx] at hck hxu hvl hv9 hv0 hvm
    have Hvl := Lh hvl
    have Hv9 := Lh hv9
    have Hv0 := Lh hv0
    have Hvm := Lh hvm
    clear hx hvl hv9 hv0 hvm
    by_cases h9 : k = 9 ∧ 1 < x
    ·
     have e1 : rI (l, 0) = (0, (l, 4)) := by unfold rI; rw [if_neg (by simp)]; simp only; rw [Hv.out, Hv9.out h9.1 h9.2]
     have hkb : ((k : Int) == 9) = true := by simp; omega
     have hx1 : decide ((1 : Int) < (x : Int)) = true := by simp; omega
     have E1 := Lh e1
     have HK := Lh h9
     clear h9 e1
     go_wp2_with fail
     refine HF.out.mono ?_
     rintro e w1 ⟨rfl, h1, h2⟩
     have H1 := Lh h1
     clear h1
     go_wp2_with fail
     go_ret
     rw [E1.out]
     exact ⟨rfl, H1.out, h2⟩
    ·
     have hxx : k = 9 → x ≤ 1 := fun h => by omega
     have hX := or_shift z x k Hz.out hk9 hxu hxx
     have hzl := acc_lt64 Hz.out hk9 hxx
     have Hz2 := Lh (acc_lt (x := x) Hz.out)
     obtain ⟨z2, hz2⟩ : ∃ z2, z2 = z + x % 128 * 128 ^ k := ⟨_, rfl⟩
     rw [← hz2] at hX hzl
     have HZ2 := Lh hz2
     have HX9 := Lh hxx
     clear hz2 hxx
     have hsp : (((k : Int) == 9) = true ∧ decide ((1 : Int) < (x : Int)) = false) ∨ (((k : Int) == 9) = false ∧ True) := by
      by_cases hk : k = 9
      ·
       have hle := HX9.out hk
       refine .inl ⟨by simp; omega, by simp; omega⟩
      ·
       exact .inr ⟨by simp; omega, trivial⟩
     by_cases hx128 : x < 128
     ·
      have hxi : decide ((x : Int) < 128) = true := by simp; omega
      by_cases hx0 : x = 0 ∧ 0 < k
      ·
       have e1 : rI (l, 0) = (0, (l, 4)) := by unfold rI; rw [if_neg (by simp)]; simp only; rw [Hv.out, Hv0.out hx0.1 hx0.2]
       have E1 := Lh e1
       have hki : decide ((0 : Int) < (k : Int)) = true := by simp; omega
       have hkn : 0 < k := hx0.2
       have hxb : ((x : Int) == 0) = true := by simp; omega
       have HK := Lh h9
       clear e1 hx0 h9 hx128
       rcases hsp with ⟨hkb, hx1⟩ | ⟨hkb, _⟩
       all_goals
        go_wp2_with fail
        refine HF.out.mono ?_
        rintro e w1 ⟨rfl, h1, h2⟩
        have H1 := Lh h1
        clear h1
        go_wp2_with fail
        go_ret
        rw [E1.out]
        exact ⟨rfl, H1.out, h2⟩
      ·
       have hv := Hvl.out HX9.out hx128 (by omega)
       have e1 : rI (l, 0) = (zag z2, (l.drop (k + 1), 0)) := by unfold rI; rw [if_neg (by simp)]; simp only; rw [Hv.out, hv, HZ2.out]
       have E1 := Lh e1
       have hR := zag_bits z2 hzl
       have hw2 : wrap64 ((z2 : Int) / 2) = (z2 : Int) / 2 := by unfold wrap64; omega
       rw [hw2] at hR
       have hs2 : (((x : Int) == 0) = true ∧ decide (0 < k) = false) ∨ (((x : Int) == 0) = false ∧ True) := by
        by_cases hx : x = 0
        ·
         refine .inl ⟨by simp; omega, by simp; omega⟩
        ·
         exact .inr ⟨by simp; omega, trivial⟩
       clear e1 hv
       have hcut := hl.cut (k + 1) l.length (by omega) (Nat.le_refl _)
       have hz0 : (l.drop (k + 1)).take (l.length - (k + 1)) = l.drop (k + 1) := List.take_of_length_le (by simp)
       rw [hz0] at hcut
       have hin : ∀ j, inBlock (.slice (if c = k + 1 then some ⟨b, off, none⟩ else (some (⟨b, off, none⟩ : Addr)).map (·.add ((k + 1) * 1))) (l.length - (k + 1)) (c - (k + 1))) j → j < g := by
        intro j hj
        refine ha j ?_
        obtain ⟨ad, n, c2, hv, rfl⟩ := hj
        refine ⟨⟨b, off, none⟩, _, _, rfl, ?_⟩
        simp only [Value.slice.injEq] at hv
        split at hv
        ·
         have := hv.1
         simp at this
         rw [← this]
        ·
         have := hv.1
         simp [add_none] at this
         rw [← this]
       have HS := Lh (RD.setLeft Hh.out hcut hin)
       have HK := Lh h9
       have HK0 := Lh hx0
       clear hcut hin hz0 hx0 h9 hx128
       rcases hsp with ⟨hkb, hx1⟩ | ⟨hkb, _⟩
       all_goals
        rcases hs2 with ⟨hxb, hki⟩ | ⟨hxb, _⟩
       all_goals
        by_cases hce : c = k + 1
       all_goals
        go_wp2_with fail
        go_ret
        rw [E1.out]
        have hs := HS.out
        refine ⟨rfl, ?_⟩
        first
         | (rw [if_pos hce, hce, Nat.sub_self] at hs; exact hs)
         | (rw [if_neg hce, Nat.mul_one, Option.map_some, add_none] at hs; exact hs)
     ·
      have hxi : decide ((x : Int) < 128) = false := by simp; omega
      have H128 := Lh hx128
      have HK := Lh h9
      clear hx128 h9
      rcases hsp with ⟨hkb, hx1⟩ | ⟨hkb, _⟩
      all_goals
       go_wp2_with fail
      ·
       exact absurd (HX9.out (by simp at hkb; omega)) (by have := H128.out; omega)
      ·
       have hk9n : k ≠ 9 := by simp at hkb; omega
       exact ⟨⟨k + 1, z2, by omega, by omega, rfl, by push_cast; rfl, by (show _ < _; rw [HZ2.out]; exact Hz2.out), by (show _ = _; rw [Hv.out, Hvm.out hk9n (by have := H128.out; omega), HZ2.out]), trivial⟩, by simp [intOf]; omega⟩
   ·
    have e1 : rI (l, 0) = (0, (l, 4)) := by unfold rI; rw [if_neg (by simp)]; simp only; rw [Hv.out, vdec_end (by omega) _ rfl]
    have E1 := Lh e1
    clear e1
    have hki : decide ((k : Int) < (l.length : Int)) = false := by simp; omega
    go_wp2_with fail
    refine HF.out.mono ?_
    rintro e w1 ⟨rfl, h1, h2⟩
    have H1 := Lh h1
    clear h1
    go_wp2_with fail
    go_ret
    rw [E1.out]
    exact ⟨rfl, H1.out, h2⟩
 ·
  have e1 : rI (l, e) = (0, (l, e)) := by unfold rI; rw [if_pos he]
  rw [e1]
  have hd : decide (e = 0) = false := by simp [he]
  have hb : (e != 0) = true := by simp [he]
  go_in
  go_wp2_with fail
  go_ret
  exact ⟨rfl, h, Kept.refl _ _⟩
end Cam
/- pack.Reader: Mark, Text. -/
namespace Cam
open Go Go.RowKit Go.Proofs
set_option linter.unusedVariables false
set_option linter.unusedSimpArgs false
set_option maxHeartbeats 1600000
theorem inBlock_cut {a : Option Addr} {n c lo n' c' g : Nat} (ha : ∀ j, inBlock (.slice a n c) j → j < g) : ∀ j, inBlock (.slice (if c = lo then a else a.map (·.add (lo * 1))) n' c') j → j < g := by
 intro j hj
 refine ha j ?_
 obtain ⟨ad, m, c2, hv, rfl⟩ := hj
 simp only [Value.slice.injEq] at hv
 split at hv
 ·
  exact ⟨ad, n, c, by rw [hv.1], rfl⟩
 ·
  cases a with
  | none =>
   have := hv.1
   simp at this
  | some ad0 =>
   have := hv.1
   simp only [Option.map_some, Option.some.injEq] at this
   refine ⟨ad0, n, c, rfl, ?_⟩
   rw [← this]
   unfold Addr.add
   split <;> rfl
theorem RD.cutLeft {w : World} {g c : Nat} {a : Option Addr} {l : List UInt8} {e : Int} (h : w.heap[g]? = some (.cells #[.slice a l.length c, e] 223 (0, 0))) (hl : Bs w (.slice a l.length c) l) (ha : ∀ k, inBlock (.slice a l.length c) k → k < g) (lo : Nat) (hlo : lo ≤ l.length) :
  RD (w.setCell ⟨g, 0, none⟩ (.slice (if c = lo then a else a.map (·.add (lo * 1))) (l.length - lo) (c - lo))) g (l.drop lo, e) ∧ Kept (fun k => k = g) w (w.setCell ⟨g, 0, none⟩ (.slice (if c = lo then a else a.map (·.add (lo * 1))) (l.length - lo) (c - lo))) := by
 have hcut := hl.cut lo l.length hlo (Nat.le_refl _)
 have hz0 : (l.drop lo).take (l.length - lo) = l.drop lo := List.take_of_length_le (by simp)
 rw [hz0] at hcut
 exact RD.setLeft h hcut (inBlock_cut ha)
theorem RMark_any (w : World) (g : Nat) (s : RS) (h : RD w g s) : Calls Tryz.prog 129 #[.pointer (some ⟨g, 0, none⟩)] w fun r w' => r = .returned (.bool (rM s).1) ∧ RD w' g (rM s).2 ∧ Kept (fun k => k = g) w w' := by
 obtain ⟨a, c, hc0, hc1, hf0, hf1, hl, ha, hlc, hcm, hh⟩ := h.cell
 obtain ⟨l, e⟩ := s
 simp only at hc0 hc1 hl ha hlc hh
 by_cases he : e = 0
 ·
  subst he
  have hf := fail_any w g (l, 0) 4 h
  rw [show rFail (l, 0) 4 = (l, 4) by simp [rFail]] at hf
  cases l with
  | nil =>
   have e1 : rM ([], 0) = (false, ([], 4)) := by simp [rM]
   have E1 := Lh e1
   clear e1
   go_in
   go_wp2_with fail
   refine hf.mono ?_
   rintro e w1 ⟨rfl, h1, h2⟩
   obtain ⟨a1, c1, hd0, hd1, _⟩ := h1.cell
   have H1 := Lh h1
   clear h1 hf
   go_wp2_with fail
   go_ret
   rw [E1.out]
   exact ⟨rfl, H1.out, h2⟩
  | cons u l =>
   obtain ⟨b, off, rfl, _, hc⟩ := hl.at (by simp)
   have hck := hc 0 (by simp)
   simp only [List.getElem_cons_zero, Nat.add_zero] at hck
   clear hc
   obtain ⟨x, hx⟩ : ∃ x, x = u.toNat := ⟨_, rfl⟩
   by_cases hx1 : 1 < u.toNat
   ·
    have e1 : rM (u :: l, 0) = (false, (u :: l, 4)) := by simp [rM, hx1]
    have E1 := Lh e1
    have hli : (1 : Int) < (x : Int) := by omega
    rw [← hx] at hck
    clear e1 hx1 hx
    have hne : ¬ (u :: l = []) := by simp
    have hln : (((u :: l).length : Int) == 0) = false := by simp; omega
    have hlp : 0 < (u :: l).length := by simp
    generalize hL : u :: l = L at *
    go_in
    go_wp2_with fail
    refine hf.mono ?_
    rintro e w1 ⟨rfl, h1, h2⟩
    obtain ⟨a1, c1, hd0, hd1, _⟩ := h1.cell
    have H1 := Lh h1
    clear h1 hf
    go_wp2_with fail
    go_ret
    rw [E1.out]
    exact ⟨rfl, H1.out, h2⟩
   ·
    have e1 : rM (u :: l, 0) = (decide (u.toNat = 1), (l, 0)) := by simp [rM, hx1]
    have E1 := Lh e1
    have hli : decide ((1 : Int) < (x : Int)) = false := by simp; omega
    have hx1b : ((x : Int) == 1) = decide (u.toNat = 1) := by rw [← hx, Bool.eq_iff_iff]; simp; omega
    rw [← hx] at hck
    have HS := RD.cutLeft hh hl ha 1 (by simp)
    simp only [List.drop_succ_cons, List.drop_zero] at HS
    have HS := Lh HS
    clear e1 hx1 hx
    have hne : ¬ (u :: l = []) := by simp
    have hln : (((u :: l).length : Int) == 0) = false := by simp; omega
    have hlp : 0 < (u :: l).length := by simp
    generalize hL : u :: l = L at *
    by_cases hce : c = 1
    all_goals
     go_in
     go_wp2_with fail
     go_ret
     rw [E1.out]
     have hs := HS.out
     refine ⟨rfl, ?_⟩
     first
      | (rw [if_pos hce, hce, Nat.sub_self] at hs; exact hs)
      | (rw [if_neg hce, Nat.mul_one, Option.map_some, add_none] at hs; exact hs)
 ·
  have e1 : rM (l, e) = (false, (l, e)) := by simp [rM, he]
  rw [e1]
  have hd : decide (e = 0) = false := by simp [he]
  have hb : (e != 0) = true := by simp [he]
  go_in
  go_wp2_with fail
  go_ret
  exact ⟨rfl, h, Kept.refl _ _⟩
end Cam
/- reading: the plain laws. -/
namespace Cam
open Go Go.RowKit
set_option linter.unusedVariables false
set_option linter.unusedSimpArgs false
set_option maxHeartbeats 1600000
theorem pow_step {k : Nat} (h : k < 9) : 128 ^ (9 - k) = 128 * 128 ^ (8 - k) := by
 rw [show 9 - k = (8 - k) + 1 by omega, Nat.pow_succ, Nat.mul_comm]
theorem vdec_some (l : List UInt8) : ∀ (k acc r n : Nat), k ≤ 9 → vdec k (128 ^ k) acc l = some (r, n) → ∃ z rest, l = venc z ++ rest ∧ r = acc + z * 128 ^ k ∧ n = k + (venc z).length ∧ z < 2 * 128 ^ (9 - k) ∧ (k = 0 ∨ z ≠ 0) := by
 induction l with
 | nil =>
  intro k acc r n hk h
  rw [vdec] at h
  cases h
 | cons c l ih =>
  intro k acc r n hk h
  rw [vdec] at h
  have hcu := c.toNat_lt
  by_cases h1 : k = 9 ∧ 1 < c.toNat
  ·
   rw [if_pos h1] at h
   cases h
  ·
   rw [if_neg h1] at h
   by_cases h2 : c.toNat < 128
   ·
    rw [if_pos h2] at h
    by_cases h3 : c.toNat = 0 ∧ 0 < k
    ·
     rw [if_pos h3] at h
     cases h
    ·
     rw [if_neg h3] at h
     cases h
     have hv : venc c.toNat = [c] := by rw [venc_low _ h2, UInt8.ofNat_toNat]
     refine ⟨c.toNat, l, ?_, rfl, ?_, ?_, by omega⟩
     ·
      rw [hv]
      rfl
     ·
      rw [hv]
      rfl
     ·
      by_cases h9 : k = 9
      ·
       subst h9
       simp
       omega
      ·
       rw [pow_step (by omega)]
       have : 0 < 128 ^ (8 - k) := Nat.pow_pos (by omega)
       generalize 128 ^ (8 - k) = y at *
       omega
   ·
    rw [if_neg h2] at h
    by_cases h9 : k = 9
    ·
     rw [if_pos h9] at h
     cases h
    ·
     rw [if_neg h9, ← Nat.pow_succ] at h
     obtain ⟨z, rest, e1, e2, e3, e4, e5⟩ := ih (k + 1) _ r n (by omega) h
     have hz : z ≠ 0 := by omega
     have hd : (c.toNat - 128 + 128 * z) / 128 = z := by omega
     have hm : (c.toNat - 128 + 128 * z) % 128 + 128 = c.toNat := by omega
     refine ⟨c.toNat - 128 + 128 * z, rest, ?_, ?_, ?_, ?_, .inr (by omega)⟩
     ·
      rw [venc_high _ (by omega), hd, hm, UInt8.ofNat_toNat, e1]
      rfl
     ·
      rw [e2, Nat.pow_succ, Nat.add_assoc, Nat.mul_comm (128 ^ k) 128, ← Nat.mul_assoc, ← Nat.add_mul, Nat.mul_comm z 128]
     ·
      rw [venc_high _ (by omega), hd, e3, List.length_cons]
      omega
     ·
      rw [pow_step (by omega)]
      rw [show 9 - (k + 1) = 8 - k by omega] at e4
      generalize 128 ^ (8 - k) = y at *
      omega
theorem zag_range (z : Nat) (h : z < 18446744073709551616) : -9223372036854775808 ≤ zag z ∧ zag z ≤ 9223372036854775807 := by
 unfold zag
 split <;> omega
theorem rI_err (s : RS) (h : s.2 ≠ 0) : rI s = (0, s) := by
 unfold rI
 rw [if_pos h]
theorem rI_range (s : RS) : -9223372036854775808 ≤ (rI s).1 ∧ (rI s).1 ≤ 9223372036854775807 := by
 unfold rI
 split
 ·
  simp
 ·
  split
  ·
   next z k hv =>
   obtain ⟨z', rest, e1, e2, e3, e4, _⟩ := vdec_some _ 0 0 z k (by omega) hv
   have : z = z' := by simpa using e2
   subst this
   exact zag_range z (by simpa using e4)
  ·
   simp
theorem rM_err (s : RS) (h : s.2 ≠ 0) : rM s = (false, s) := by
 unfold rM
 rw [if_pos h]
theorem rM_len (s : RS) : (rM s).2.1.length ≤ s.1.length := by
 obtain ⟨l, e⟩ := s
 unfold rM
 split
 ·
  exact Nat.le_refl _
 ·
  cases l with
  | nil => simp
  | cons c l =>
   simp only
   split <;> simp
end Cam
