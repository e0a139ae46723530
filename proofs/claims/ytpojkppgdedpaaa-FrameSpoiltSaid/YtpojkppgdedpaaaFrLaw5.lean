import Derived.Test.YtpojkppgdedpaaaFrLaw4
import Derived.Test.YtpojkppgdedpaaaFrSpoil
/- FrameSpoilt: the walk. -/
namespace Cam
open Go Go.RowKit Go.Proofs

theorem xor_bytes (a c : UInt8) : Go.bits BinOp.xor IntKind.u8 (a.toNat : Int) (c.toNat : Int) = ((a ^^^ c).toNat : Int) := by
  rw [u8_xor_nat _ _ a.toNat_lt c.toNat_lt, UInt8.toNat_xor]

theorem OwnB.stored {t : TypeId} {w : World} {base g n c : Nat} {l : List UInt8} (h : OwnB t w base (.slice (some ⟨g, 0, none⟩) n c) l) {j : Nat} (x : UInt8) :
    OwnB t (w.setCell ⟨g, j, none⟩ (.int .u8 (x.toNat : Int))) base (.slice (some ⟨g, 0, none⟩) n c) (l.set j x) := by
  unfold OwnB at h ⊢
  obtain ⟨a, cap, hsh, _⟩ := Bs.of_owns h |>.shape
  simp only [Value.slice.injEq] at hsh
  obtain ⟨_, rfl, _⟩ := hsh
  have := (World.ownsRow.stored h j (.int .u8 (x.toNat : Int))).1
  rw [List.length_set]
  have e : (bvs l).set j (.int .u8 (x.toNat : Int)) = bvs (l.set j x) := by
    unfold bvs
    rw [List.map_set]
  rw [← e]
  exact this

theorem OwnB.cellAt {t : TypeId} {w : World} {base g n c : Nat} {l : List UInt8} (h : OwnB t w base (.slice (some ⟨g, 0, none⟩) n c) l) {j : Nat} (hj : j < l.length) :
    w.cell? ⟨g, j, none⟩ = some (.int .u8 (l[j].toNat : Int)) ∧ w.frozen? ⟨g, j, none⟩ = false := by
  unfold OwnB at h
  obtain ⟨a, cap, hsh, _⟩ := Bs.of_owns h |>.shape
  simp only [Value.slice.injEq] at hsh
  obtain ⟨_, rfl, _⟩ := hsh
  refine ⟨?_, World.ownsRow.frozenAt h j⟩
  rw [World.ownsRow.cellAt h j (by omega), List.getElem?_map, List.getElem?_eq_getElem hj]
  rfl

set_option maxRecDepth 100000 in
set_option maxHeartbeats 6400000 in
theorem FrameSpoilt_walk (w : World) (gen no : Int) (vp : Value) (p : List UInt8) (at_ bits shift : Int) (hp : Bs w vp p) (hbits : 0 ≤ bits ∧ bits < 4294967296) :
    Calls Try.prog 8 #[.int .i64 gen, .int .i64 no, vp, .int .i64 at_, .int .u32 bits, .int .i64 shift] w fun e w' => e = .returned (.bool true) ∧ Below w.heap.size w w' := by
  obtain ⟨ap, cp, rfl, hcp, hmp⟩ := hp.shape
  obtain ⟨hb0, hb1⟩ := hbits
  by_cases h1 : 65536 < (p.length : Int)
  · go_enter Try.func8, Try.ntmps8
    go_wp2
    go_ret
    exact ⟨rfl, Below.refl _ _⟩
  by_cases h3 : gen < 0
  · go_enter Try.func8, Try.ntmps8
    go_wp2
    go_ret
    exact ⟨rfl, Below.refl _ _⟩
  by_cases h4 : 1099511627776 < gen
  · go_enter Try.func8, Try.ntmps8
    go_wp2
    go_ret
    exact ⟨rfl, Below.refl _ _⟩
  by_cases h5 : no < 0
  · go_enter Try.func8, Try.ntmps8
    go_wp2
    go_ret
    exact ⟨rfl, Below.refl _ _⟩
  by_cases h6 : 2147483647 < no
  · go_enter Try.func8, Try.ntmps8
    go_wp2
    go_ret
    exact ⟨rfl, Below.refl _ _⟩
  by_cases h7 : bits = 0
  · go_enter Try.func8, Try.ntmps8
    go_wp2
    go_ret
    exact ⟨rfl, Below.refl _ _⟩
  obtain ⟨g, rfl⟩ : ∃ g : Nat, gen = g := ⟨gen.toNat, by omega⟩
  obtain ⟨k, rfl⟩ : ∃ k : Nat, no = k := ⟨no.toNat, by omega⟩
  obtain ⟨B, rfl⟩ : ∃ B : Nat, bits = B := ⟨bits.toNat, by omega⟩
  have hg : g ≤ 1099511627776 := by omega
  have hk : k ≤ 2147483647 := by omega
  have hpl : p.length ≤ 65536 := by omega
  have hB : B < 4294967296 := by omega
  have hB0 : ((B : Int) == 0) = false := by simp; omega
  obtain ⟨u, hu, _⟩ := as_u64 at_
  obtain ⟨u2, hu2, _⟩ := as_u64 shift
  obtain ⟨s, hs, hs7⟩ : ∃ s : Nat, ((u2 : Int) % 8) = (s : Int) ∧ s ≤ 7 := ⟨u2 % 8, by simp, by omega⟩
  obtain ⟨X, hX⟩ : ∃ X : Nat, X = B * 2 ^ s := ⟨_, rfl⟩
  have hX' : IntKind.u64.wrap ((B : Int) * 2 ^ s) = (X : Int) := by
    have h2 : (2 : Nat) ^ s ≤ 128 := Nat.pow_le_pow_right (n := 2) (by decide) hs7
    have h3 : B * 2 ^ s ≤ 4294967296 * 128 := Nat.mul_le_mul (by omega) h2
    rw [hX, show ((B : Int) * 2 ^ s) = ((B * 2 ^ s : Nat) : Int) by simp]
    generalize B * 2 ^ s = q at h3 ⊢
    simp [IntKind.wrap, IntKind.bits, IntKind.signed]
    omega
  have HX := Lib.hid hX
  have h7' : Hid (¬ (B : Int) = 0) := h7
  clear h7 hX
  by_cases hat : at_ < 0
  · by_cases hpl0 : 0 < p.length
    · have hpl0' : (0 : Int) < p.length := by omega
      go_enter Try.func8, Try.ntmps8
      go_wp2_with fail
      refine (Seal_ok _ _ g k p hp hg hk hpl).mono ?_
      rintro e w1 ⟨v1, rfl, ho1, hb1⟩
      obtain ⟨g1, c1, hv1, hc1, hm1, hgw1, _⟩ := ho1.form (by rw [sealB_length]; omega)
      obtain ⟨n1, hn1⟩ : ∃ n1, n1 = (sealB g k p).length := ⟨_, rfl⟩
      rw [← hn1] at hv1 hc1
      subst hv1
      have hn1' : ((n1 : Int) != 21 + (p.length : Int)) = false := by
        rw [sealB_length] at hn1
        simp
        omega
      have hn1p : n1 ≤ p.length + 21 := by rw [sealB_length] at hn1; omega
      have hn2 : n1 ≤ 65557 := by omega
      have hn3 : 21 ≤ n1 := by rw [sealB_length] at hn1; omega
      have hn4 : p.length + 21 ≤ n1 := by rw [sealB_length] at hn1; omega
      obtain ⟨r, hr, hrn⟩ : ∃ r : Nat, ((u : Int) % ((n1 : Int) - 21)) = (r : Int) ∧ r < n1 - 21 := ⟨u % (n1 - 21), by rw [show ((n1 : Int) - 21) = ((n1 - 21 : Nat) : Int) by omega]; simp, Nat.mod_lt _ (by omega)⟩
      have Hn1 := Lib.hid hn1
      clear hn1
      go_wp2_with fail
      obtain ⟨kk, hkk⟩ : ∃ kk : Nat, kk = 21 + r := ⟨_, rfl⟩
      have hkk' : (21 : Int) + (r : Int) = (kk : Int) := by omega
      have hkk1 : 21 ≤ kk := by omega
      have hkk2 : kk < n1 := by omega
      rw [hkk']
      clear hkk' hkk hr hrn
      go_loopw [20, 21] (fun t i wr => ∃ (j : Nat) (tb : Bool) (l' : List UInt8), j ≤ 5 ∧ kk + j ≤ n1 ∧ i = .int .i64 j ∧ t = .bool tb ∧ OwnB 5 wr w.heap.size (.slice (some ⟨g1, 0, none⟩) n1 c1) l' ∧ Hid (Spoilt (sealB g k p) kk j X l') ∧ Below w.heap.size w wr ∧ Hid (tb = true → ∃ i, i < j ∧ UInt8.ofNat (X / 256 ^ i) ≠ 0)) (fun _ i _ => 5 - (intOf i).toNat)
      case atStart => exact ⟨0, false, _, by omega, by omega, rfl, rfl, ho1, Spoilt.zero _ _ _, hb1, (fun h => by cases h)⟩
      case round =>
        obtain ⟨j, tb, l', hj, hkj, rfl, rfl, hown, Hsp, hbel, Htb⟩ := hrel
        have hl' : l'.length = n1 := by rw [Hsp.out.1, Hn1.out]
        by_cases hjc : j < 5 ∧ kk + j < n1
        · obtain ⟨hj5, hjt⟩ := hjc
          have hj5' : (j : Int) < 5 := by omega
          have hjt' : (kk : Int) + (j : Int) < (n1 : Int) := by omega
          have hidx : kk + j < l'.length := by omega
          obtain ⟨_, _, hsh, _, _, hgw, _⟩ := hown.form (by omega)
          simp only [Value.slice.injEq, Option.some.injEq, Addr.mk.injEq] at hsh
          obtain ⟨cb, hcb⟩ : ∃ cb, cb = UInt8.ofNat (X / 256 ^ j) := ⟨_, rfl⟩
          have hcx : ((X : Int) / 2 ^ (8 * j) % 256) = (cb.toNat : Int) := by rw [hcb]; exact byte_at X j
          obtain ⟨a, ha⟩ : ∃ a, a = l'[kk + j] := ⟨_, rfl⟩
          have hxx := xor_bytes a cb
          obtain ⟨hck, hfr⟩ := OwnB.cellAt hown hidx
          rw [← ha] at hck
          have hst := OwnB.stored (j := kk + j) hown (a ^^^ cb)
          have hstep := Hsp.out.step hidx
          rw [← ha, ← hcb] at hstep
          have Hstep := Lib.hid hstep
          have Hcb := Lib.hid hcb
          have hgw1' : w.heap.size ≤ g1 := hgw1
          clear hcb ha hstep hl' hsh
          have hna : (a.toNat : Int) < 256 := by have := a.toNat_lt; omega
          have hnc : (cb.toNat : Int) < 256 := by have := cb.toNat_lt; omega
          cases tb with
          | true =>
            go_wp2
            go_roundw
            case rel => exact ⟨j + 1, true, _, by omega, by omega, by go_num, rfl, hst, Hstep.out, hbel.setCell hgw1' _, fun _ => (Htb.out rfl).imp fun i hi => ⟨by omega, hi.2⟩⟩
            case measure => simp [intOf]; omega
          | false =>
            by_cases hz : cb = 0
            · have hz' : ((cb.toNat : Int) != 0) = false := by rw [hz]; rfl
              have Hz := Lib.hid hz
              clear hz
              go_wp2
              go_roundw
              case rel => exact ⟨j + 1, false, _, by omega, by omega, by go_num, rfl, hst, Hstep.out, hbel.setCell hgw1' _, fun h => by cases h⟩
              case measure => simp [intOf]; omega
            · have hz' : ((cb.toNat : Int) != 0) = true := by
                rw [bne_iff_ne]
                intro e
                exact hz (UInt8.toNat_inj.1 (by show _ = 0; omega))
              have Hz := Lib.hid hz
              clear hz
              go_wp2
              go_roundw
              case rel => exact ⟨j + 1, true, _, by omega, by omega, by go_num, rfl, hst, Hstep.out, hbel.setCell hgw1' _, fun _ => ⟨j, by omega, by rw [← Hcb.out]; exact Hz.out⟩⟩
              case measure => simp [intOf]; omega
        · have Hno : Hid (tb = true → ¬ isFrame l') := fun htb => by
            obtain ⟨i, hi, hne⟩ := Htb.out htb
            obtain ⟨y, hy1, hy2⟩ := bits_in B s j hB hs7 (by omega)
            rw [← HX.out] at hy1
            refine spoilt_noFrame hg hk hpl Hsp.out (by rw [← Nat.add_comm 21]; omega) hy1 hy2 ?_ (by omega)
            intro y0
            rw [y0] at hy1
            exact lows_ne hi hne (by simpa using hy1)
          have hout : (¬ (j : Int) < 5) ∨ ((j : Int) < 5 ∧ ¬ (kk : Int) + (j : Int) < (n1 : Int)) := by omega
          clear hjc
          cases tb with
          | false =>
            rcases hout with ho | ⟨ho, ho'⟩
            all_goals
              go_wp2_with fail
              refine (wakes_any _).mono ?_
              rintro e w5 ⟨rfl, hb5⟩
              go_wp2_with fail
              go_ret
              exact ⟨rfl, hbel.next hb5⟩
          | true =>
            rcases hout with ho | ⟨ho, ho'⟩
            all_goals
              go_wp2_with fail
              refine (First_any _ _ _ hown.bs).mono ?_
              rintro e w4 hpost
              rcases hpost with ⟨hf, _, _, _, _⟩ | ⟨_, rfl, hb4⟩
              · exact absurd hf (Hno.out (by first | rfl | trivial))
              · unfold packBad
                go_wp2_with fail
                refine (wakes_any _).mono ?_
                rintro e w5 ⟨rfl, hb5⟩
                go_wp2_with fail
                go_ret
                exact ⟨rfl, (hbel.next hb4).next hb5⟩
    · have hpl0' : ¬ (0 : Int) < p.length := by omega
      go_enter Try.func8, Try.ntmps8
      go_wp2_with fail
      refine (Seal_ok _ _ g k p hp hg hk hpl).mono ?_
      rintro e w1 ⟨v1, rfl, ho1, hb1⟩
      obtain ⟨g1, c1, hv1, hc1, hm1, hgw1, _⟩ := ho1.form (by rw [sealB_length]; omega)
      obtain ⟨n1, hn1⟩ : ∃ n1, n1 = (sealB g k p).length := ⟨_, rfl⟩
      rw [← hn1] at hv1 hc1
      subst hv1
      have hn1' : ((n1 : Int) != 21 + (p.length : Int)) = false := by
        rw [sealB_length] at hn1
        simp
        omega
      have hn1p : n1 ≤ p.length + 21 := by rw [sealB_length] at hn1; omega
      have hn2 : n1 ≤ 65557 := by omega
      have hn3 : 21 ≤ n1 := by rw [sealB_length] at hn1; omega
      have hn4 : p.length + 21 ≤ n1 := by rw [sealB_length] at hn1; omega
      obtain ⟨r, hr, hrn⟩ : ∃ r : Nat, ((u : Int) % (12 : Int)) = (r : Int) ∧ r < 12 := ⟨u % (12), by rw [show (12 : Int) = ((12 : Nat) : Int) by omega]; simp, Nat.mod_lt _ (by omega)⟩
      have Hn1 := Lib.hid hn1
      clear hn1
      go_wp2_with fail
      obtain ⟨kk, hkk⟩ : ∃ kk : Nat, kk = 1 + r := ⟨_, rfl⟩
      have hkk' : (1 : Int) + (r : Int) = (kk : Int) := by omega
      have hkk1 : 1 ≤ kk := by omega
      have hkk2 : kk < 13 := by omega
      rw [hkk']
      clear hkk' hkk hr hrn
      go_loopw [20, 21] (fun t i wr => ∃ (j : Nat) (tb : Bool) (l' : List UInt8), j ≤ 5 ∧ kk + j ≤ 13 ∧ i = .int .i64 j ∧ t = .bool tb ∧ OwnB 5 wr w.heap.size (.slice (some ⟨g1, 0, none⟩) n1 c1) l' ∧ Hid (Spoilt (sealB g k p) kk j X l') ∧ Below w.heap.size w wr ∧ Hid (tb = true → ∃ i, i < j ∧ UInt8.ofNat (X / 256 ^ i) ≠ 0)) (fun _ i _ => 5 - (intOf i).toNat)
      case atStart => exact ⟨0, false, _, by omega, by omega, rfl, rfl, ho1, Spoilt.zero _ _ _, hb1, (fun h => by cases h)⟩
      case round =>
        obtain ⟨j, tb, l', hj, hkj, rfl, rfl, hown, Hsp, hbel, Htb⟩ := hrel
        have hl' : l'.length = n1 := by rw [Hsp.out.1, Hn1.out]
        by_cases hjc : j < 5 ∧ kk + j < 13
        · obtain ⟨hj5, hjt⟩ := hjc
          have hj5' : (j : Int) < 5 := by omega
          have hjt' : (kk : Int) + (j : Int) < 13 := by omega
          have hidx : kk + j < l'.length := by omega
          obtain ⟨_, _, hsh, _, _, hgw, _⟩ := hown.form (by omega)
          simp only [Value.slice.injEq, Option.some.injEq, Addr.mk.injEq] at hsh
          obtain ⟨cb, hcb⟩ : ∃ cb, cb = UInt8.ofNat (X / 256 ^ j) := ⟨_, rfl⟩
          have hcx : ((X : Int) / 2 ^ (8 * j) % 256) = (cb.toNat : Int) := by rw [hcb]; exact byte_at X j
          obtain ⟨a, ha⟩ : ∃ a, a = l'[kk + j] := ⟨_, rfl⟩
          have hxx := xor_bytes a cb
          obtain ⟨hck, hfr⟩ := OwnB.cellAt hown hidx
          rw [← ha] at hck
          have hst := OwnB.stored (j := kk + j) hown (a ^^^ cb)
          have hstep := Hsp.out.step hidx
          rw [← ha, ← hcb] at hstep
          have Hstep := Lib.hid hstep
          have Hcb := Lib.hid hcb
          have hgw1' : w.heap.size ≤ g1 := hgw1
          clear hcb ha hstep hl' hsh
          have hna : (a.toNat : Int) < 256 := by have := a.toNat_lt; omega
          have hnc : (cb.toNat : Int) < 256 := by have := cb.toNat_lt; omega
          cases tb with
          | true =>
            go_wp2
            go_roundw
            case rel => exact ⟨j + 1, true, _, by omega, by omega, by go_num, rfl, hst, Hstep.out, hbel.setCell hgw1' _, fun _ => (Htb.out rfl).imp fun i hi => ⟨by omega, hi.2⟩⟩
            case measure => simp [intOf]; omega
          | false =>
            by_cases hz : cb = 0
            · have hz' : ((cb.toNat : Int) != 0) = false := by rw [hz]; rfl
              have Hz := Lib.hid hz
              clear hz
              go_wp2
              go_roundw
              case rel => exact ⟨j + 1, false, _, by omega, by omega, by go_num, rfl, hst, Hstep.out, hbel.setCell hgw1' _, fun h => by cases h⟩
              case measure => simp [intOf]; omega
            · have hz' : ((cb.toNat : Int) != 0) = true := by
                rw [bne_iff_ne]
                intro e
                exact hz (UInt8.toNat_inj.1 (by show _ = 0; omega))
              have Hz := Lib.hid hz
              clear hz
              go_wp2
              go_roundw
              case rel => exact ⟨j + 1, true, _, by omega, by omega, by go_num, rfl, hst, Hstep.out, hbel.setCell hgw1' _, fun _ => ⟨j, by omega, by rw [← Hcb.out]; exact Hz.out⟩⟩
              case measure => simp [intOf]; omega
        · have Hno : Hid (tb = true → ¬ isFrame l') := fun htb => by
            obtain ⟨i, hi, hne⟩ := Htb.out htb
            obtain ⟨y, hy1, hy2⟩ := bits_in B s j hB hs7 (by omega)
            rw [← HX.out] at hy1
            refine spoilt_noFrame hg hk hpl Hsp.out (by omega) hy1 hy2 ?_ (by omega)
            intro y0
            rw [y0] at hy1
            exact lows_ne hi hne (by simpa using hy1)
          have hout : (¬ (j : Int) < 5) ∨ ((j : Int) < 5 ∧ ¬ (kk : Int) + (j : Int) < 13) := by omega
          clear hjc
          cases tb with
          | false =>
            rcases hout with ho | ⟨ho, ho'⟩
            all_goals
              go_wp2_with fail
              refine (wakes_any _).mono ?_
              rintro e w5 ⟨rfl, hb5⟩
              go_wp2_with fail
              go_ret
              exact ⟨rfl, hbel.next hb5⟩
          | true =>
            rcases hout with ho | ⟨ho, ho'⟩
            all_goals
              go_wp2_with fail
              refine (First_any _ _ _ hown.bs).mono ?_
              rintro e w4 hpost
              rcases hpost with ⟨hf, _, _, _, _⟩ | ⟨_, rfl, hb4⟩
              · exact absurd hf (Hno.out (by first | rfl | trivial))
              · unfold packBad
                go_wp2_with fail
                refine (wakes_any _).mono ?_
                rintro e w5 ⟨rfl, hb5⟩
                go_wp2_with fail
                go_ret
                exact ⟨rfl, (hbel.next hb4).next hb5⟩
  · have hat' : decide (at_ < 0) = false := decide_eq_false hat
    go_enter Try.func8, Try.ntmps8
    go_wp2_with fail
    refine (Seal_ok _ _ g k p hp hg hk hpl).mono ?_
    rintro e w1 ⟨v1, rfl, ho1, hb1⟩
    obtain ⟨g1, c1, hv1, hc1, hm1, hgw1, _⟩ := ho1.form (by rw [sealB_length]; omega)
    obtain ⟨n1, hn1⟩ : ∃ n1, n1 = (sealB g k p).length := ⟨_, rfl⟩
    rw [← hn1] at hv1 hc1
    subst hv1
    have hn1' : ((n1 : Int) != 21 + (p.length : Int)) = false := by
      rw [sealB_length] at hn1
      simp
      omega
    have hn1p : n1 ≤ p.length + 21 := by rw [sealB_length] at hn1; omega
    have hn2 : n1 ≤ 65557 := by omega
    have hn3 : 21 ≤ n1 := by rw [sealB_length] at hn1; omega
    have hn4 : p.length + 21 ≤ n1 := by rw [sealB_length] at hn1; omega
    obtain ⟨r, hr, hrn⟩ : ∃ r : Nat, ((u : Int) % (12 : Int)) = (r : Int) ∧ r < 12 := ⟨u % (12), by rw [show (12 : Int) = ((12 : Nat) : Int) by omega]; simp, Nat.mod_lt _ (by omega)⟩
    have Hn1 := Lib.hid hn1
    clear hn1
    go_wp2_with fail
    obtain ⟨kk, hkk⟩ : ∃ kk : Nat, kk = 1 + r := ⟨_, rfl⟩
    have hkk' : (1 : Int) + (r : Int) = (kk : Int) := by omega
    have hkk1 : 1 ≤ kk := by omega
    have hkk2 : kk < 13 := by omega
    rw [hkk']
    clear hkk' hkk hr hrn
    go_loopw [20, 21] (fun t i wr => ∃ (j : Nat) (tb : Bool) (l' : List UInt8), j ≤ 5 ∧ kk + j ≤ 13 ∧ i = .int .i64 j ∧ t = .bool tb ∧ OwnB 5 wr w.heap.size (.slice (some ⟨g1, 0, none⟩) n1 c1) l' ∧ Hid (Spoilt (sealB g k p) kk j X l') ∧ Below w.heap.size w wr ∧ Hid (tb = true → ∃ i, i < j ∧ UInt8.ofNat (X / 256 ^ i) ≠ 0)) (fun _ i _ => 5 - (intOf i).toNat)
    case atStart => exact ⟨0, false, _, by omega, by omega, rfl, rfl, ho1, Spoilt.zero _ _ _, hb1, (fun h => by cases h)⟩
    case round =>
      obtain ⟨j, tb, l', hj, hkj, rfl, rfl, hown, Hsp, hbel, Htb⟩ := hrel
      have hl' : l'.length = n1 := by rw [Hsp.out.1, Hn1.out]
      by_cases hjc : j < 5 ∧ kk + j < 13
      · obtain ⟨hj5, hjt⟩ := hjc
        have hj5' : (j : Int) < 5 := by omega
        have hjt' : (kk : Int) + (j : Int) < 13 := by omega
        have hidx : kk + j < l'.length := by omega
        obtain ⟨_, _, hsh, _, _, hgw, _⟩ := hown.form (by omega)
        simp only [Value.slice.injEq, Option.some.injEq, Addr.mk.injEq] at hsh
        obtain ⟨cb, hcb⟩ : ∃ cb, cb = UInt8.ofNat (X / 256 ^ j) := ⟨_, rfl⟩
        have hcx : ((X : Int) / 2 ^ (8 * j) % 256) = (cb.toNat : Int) := by rw [hcb]; exact byte_at X j
        obtain ⟨a, ha⟩ : ∃ a, a = l'[kk + j] := ⟨_, rfl⟩
        have hxx := xor_bytes a cb
        obtain ⟨hck, hfr⟩ := OwnB.cellAt hown hidx
        rw [← ha] at hck
        have hst := OwnB.stored (j := kk + j) hown (a ^^^ cb)
        have hstep := Hsp.out.step hidx
        rw [← ha, ← hcb] at hstep
        have Hstep := Lib.hid hstep
        have Hcb := Lib.hid hcb
        have hgw1' : w.heap.size ≤ g1 := hgw1
        clear hcb ha hstep hl' hsh
        have hna : (a.toNat : Int) < 256 := by have := a.toNat_lt; omega
        have hnc : (cb.toNat : Int) < 256 := by have := cb.toNat_lt; omega
        cases tb with
        | true =>
          go_wp2
          go_roundw
          case rel => exact ⟨j + 1, true, _, by omega, by omega, by go_num, rfl, hst, Hstep.out, hbel.setCell hgw1' _, fun _ => (Htb.out rfl).imp fun i hi => ⟨by omega, hi.2⟩⟩
          case measure => simp [intOf]; omega
        | false =>
          by_cases hz : cb = 0
          · have hz' : ((cb.toNat : Int) != 0) = false := by rw [hz]; rfl
            have Hz := Lib.hid hz
            clear hz
            go_wp2
            go_roundw
            case rel => exact ⟨j + 1, false, _, by omega, by omega, by go_num, rfl, hst, Hstep.out, hbel.setCell hgw1' _, fun h => by cases h⟩
            case measure => simp [intOf]; omega
          · have hz' : ((cb.toNat : Int) != 0) = true := by
              rw [bne_iff_ne]
              intro e
              exact hz (UInt8.toNat_inj.1 (by show _ = 0; omega))
            have Hz := Lib.hid hz
            clear hz
            go_wp2
            go_roundw
            case rel => exact ⟨j + 1, true, _, by omega, by omega, by go_num, rfl, hst, Hstep.out, hbel.setCell hgw1' _, fun _ => ⟨j, by omega, by rw [← Hcb.out]; exact Hz.out⟩⟩
            case measure => simp [intOf]; omega
      · have Hno : Hid (tb = true → ¬ isFrame l') := fun htb => by
          obtain ⟨i, hi, hne⟩ := Htb.out htb
          obtain ⟨y, hy1, hy2⟩ := bits_in B s j hB hs7 (by omega)
          rw [← HX.out] at hy1
          refine spoilt_noFrame hg hk hpl Hsp.out (by omega) hy1 hy2 ?_ (by omega)
          intro y0
          rw [y0] at hy1
          exact lows_ne hi hne (by simpa using hy1)
        have hout : (¬ (j : Int) < 5) ∨ ((j : Int) < 5 ∧ ¬ (kk : Int) + (j : Int) < 13) := by omega
        clear hjc
        cases tb with
        | false =>
          rcases hout with ho | ⟨ho, ho'⟩
          all_goals
            go_wp2_with fail
            refine (wakes_any _).mono ?_
            rintro e w5 ⟨rfl, hb5⟩
            go_wp2_with fail
            go_ret
            exact ⟨rfl, hbel.next hb5⟩
        | true =>
          rcases hout with ho | ⟨ho, ho'⟩
          all_goals
            go_wp2_with fail
            refine (First_any _ _ _ hown.bs).mono ?_
            rintro e w4 hpost
            rcases hpost with ⟨hf, _, _, _, _⟩ | ⟨_, rfl, hb4⟩
            · exact absurd hf (Hno.out (by first | rfl | trivial))
            · unfold packBad
              go_wp2_with fail
              refine (wakes_any _).mono ?_
              rintro e w5 ⟨rfl, hb5⟩
              go_wp2_with fail
              go_ret
              exact ⟨rfl, (hbel.next hb4).next hb5⟩

end Cam
