import Derived.Test.YtpojkppgdedpaaaFrLow
import Derived.Test.YtpojkppgdedpaaaFrLaw2
import Derived.Test.YtpojkppgdedpaaaFrPure
/- FrameBack, FrameCuts: the walks. -/
namespace Cam
open Go Go.RowKit Go.Proofs

set_option maxHeartbeats 3200000 in
theorem FrameBack_walk (w : World) (gen no : Int) (vp vm : Value) (p m : List UInt8) (hp : Bs w vp p) (hmo : Bs w vm m) :
    Calls Try.prog 6 #[.int .i64 gen, .int .i64 no, vp, vm] w fun e w' => e = .returned (.bool true) ∧ Below w.heap.size w w' := by
  obtain ⟨ap, cp, rfl, hcp, hmp⟩ := hp.shape
  obtain ⟨am, cm, rfl, hcm, hmm⟩ := hmo.shape
  by_cases h1 : 65536 < (p.length : Int)
  · go_enter Try.func6, Try.ntmps6
    go_wp2
    go_ret
    exact ⟨rfl, Below.refl _ _⟩
  by_cases h2 : 131072 < (m.length : Int)
  · go_enter Try.func6, Try.ntmps6
    go_wp2
    go_ret
    exact ⟨rfl, Below.refl _ _⟩
  by_cases h3 : gen < 0
  · go_enter Try.func6, Try.ntmps6
    go_wp2
    go_ret
    exact ⟨rfl, Below.refl _ _⟩
  by_cases h4 : 1099511627776 < gen
  · go_enter Try.func6, Try.ntmps6
    go_wp2
    go_ret
    exact ⟨rfl, Below.refl _ _⟩
  by_cases h5 : no < 0
  · go_enter Try.func6, Try.ntmps6
    go_wp2
    go_ret
    exact ⟨rfl, Below.refl _ _⟩
  by_cases h6 : 2147483647 < no
  · go_enter Try.func6, Try.ntmps6
    go_wp2
    go_ret
    exact ⟨rfl, Below.refl _ _⟩
  obtain ⟨g, rfl⟩ : ∃ g : Nat, gen = g := ⟨gen.toNat, by omega⟩
  obtain ⟨k, rfl⟩ : ∃ k : Nat, no = k := ⟨no.toNat, by omega⟩
  have hg : g ≤ 1099511627776 := by omega
  have hk : k ≤ 2147483647 := by omega
  have hpl : p.length ≤ 65536 := by omega
  go_enter Try.func6, Try.ntmps6
  go_wp2_with fail
  refine (Seal_ok _ _ g k p hp hg hk hpl).mono ?_
  rintro e w1 ⟨v1, rfl, ho1, hb1⟩
  obtain ⟨a1, n1, c1, rfl, Hn1, ho1⟩ := ho1.named
  have hn1 : ((n1 : Int) != (p.length : Int) + 21) = false := by
    have := Hn1.out
    rw [sealB_length] at this
    simp
    omega
  have hn2 : n1 ≤ 65557 := by
    have := Hn1.out
    rw [sealB_length] at this
    omega
  have hn3 : (p.length : Int) + 21 ≤ 65557 := by omega
  go_wp2_with fail
  refine (Twin_any _ _ _ ho1.bs (by rw [← Hn1.out]; omega)).mono ?_
  rintro e w2 ⟨v2, rfl, ho2, hb2⟩
  obtain ⟨a2, n2, c2, rfl, Hn2, ho2⟩ := ho2.named
  have hbw2 := hb1.next hb2
  have hs2 := hb2.size
  go_wp2_with (at_builtin; refine wpList_append_bytes rfl (.tmp 58) (.tmp 59) 23 rfl elem_u8 rfl rfl ho2 (hmo.mono hbw2) (by rw [← Hn1.out]; omega) hs2 ?_; intro a3 n3 c3 w3 Hn3 ho3 hb3 _)
  have hbw3 := hbw2.trans (hb3.mono hb1.size)
  refine (First_any _ _ _ ho3.bs).mono ?_
  rintro e w4 hpost
  rcases hpost with ⟨_, v4, rfl, ho4, hb4⟩ | ⟨hf, _, _⟩
  · obtain ⟨a4, n4, c4, rfl, Hn4, ho4⟩ := ho4.named
    rw [fGen_seal m hg, fNo_seal m hk, frLen_seal m hpl]
    rw [fBody_seal m hpl] at ho4
    have hbw4 := hbw3.next hb4
    have hn5 : (((p.length + 21 : Nat) : Int) == (n1 : Int)) = true := by
      have := Hn1.out
      rw [sealB_length] at this
      simp
      omega
    obtain ⟨N, hN⟩ : ∃ N : Int, N = ((p.length + 21 : Nat) : Int) := ⟨_, rfl⟩
    rw [← hN] at hn5 ⊢
    clear hN
    go_wp2_with fail
    refine (Bytes_any _ _ _ _ _ ho4.bs (hp.mono hbw4)).mono ?_
    rintro e w5 ⟨rfl, hb5⟩
    rw [decide_eq_true rfl]
    go_wp2_with fail
    refine (wakes_any _).mono ?_
    rintro e w6 ⟨rfl, hb6⟩
    go_wp2_with fail
    go_ret
    exact ⟨rfl, (hbw4.next hb5).next hb6⟩
  · exact absurd (isFrame_seal m hg hk hpl) hf

/-- a number as an unsigned one -/
theorem as_u64 (n : Int) : ∃ m : Nat, IntKind.u64.wrap n = (m : Int) ∧ m < 18446744073709551616 := by
  refine ⟨(n % 18446744073709551616).toNat, ?_, by omega⟩
  simp [IntKind.wrap, IntKind.bits, IntKind.signed]
  omega

set_option maxHeartbeats 3200000 in
theorem FrameCuts_walk (w : World) (gen no : Int) (vp : Value) (p : List UInt8) (at_ : Int) (hp : Bs w vp p) :
    Calls Try.prog 7 #[.int .i64 gen, .int .i64 no, vp, .int .i64 at_] w fun e w' => e = .returned (.bool true) ∧ Below w.heap.size w w' := by
  obtain ⟨ap, cp, rfl, hcp, hmp⟩ := hp.shape
  by_cases h1 : 65536 < (p.length : Int)
  · go_enter Try.func7, Try.ntmps7
    go_wp2
    go_ret
    exact ⟨rfl, Below.refl _ _⟩
  by_cases h3 : gen < 0
  · go_enter Try.func7, Try.ntmps7
    go_wp2
    go_ret
    exact ⟨rfl, Below.refl _ _⟩
  by_cases h4 : 1099511627776 < gen
  · go_enter Try.func7, Try.ntmps7
    go_wp2
    go_ret
    exact ⟨rfl, Below.refl _ _⟩
  by_cases h5 : no < 0
  · go_enter Try.func7, Try.ntmps7
    go_wp2
    go_ret
    exact ⟨rfl, Below.refl _ _⟩
  by_cases h6 : 2147483647 < no
  · go_enter Try.func7, Try.ntmps7
    go_wp2
    go_ret
    exact ⟨rfl, Below.refl _ _⟩
  obtain ⟨g, rfl⟩ : ∃ g : Nat, gen = g := ⟨gen.toNat, by omega⟩
  obtain ⟨k, rfl⟩ : ∃ k : Nat, no = k := ⟨no.toNat, by omega⟩
  have hg : g ≤ 1099511627776 := by omega
  have hk : k ≤ 2147483647 := by omega
  have hpl : p.length ≤ 65536 := by omega
  obtain ⟨u, hu, hu64⟩ := as_u64 at_
  go_enter Try.func7, Try.ntmps7
  go_wp2_with fail
  refine (Seal_ok _ _ g k p hp hg hk hpl).mono ?_
  rintro e w1 ⟨v1, rfl, ho1, hb1⟩
  obtain ⟨a1, n1, c1, rfl, Hn1, ho1⟩ := ho1.named
  have hn0 : ((n1 : Int) == 0) = false := by
    have := Hn1.out
    rw [sealB_length] at this
    simp
    omega
  have hn2 : n1 ≤ 65557 := by
    have := Hn1.out
    rw [sealB_length] at this
    omega
  have hn3 : 1 ≤ n1 := by
    have := Hn1.out
    rw [sealB_length] at this
    omega
  have hc1 : n1 ≤ c1 := by
    obtain ⟨_, cc, hsh, h2, _⟩ := ho1.bs.shape
    simp only [Value.slice.injEq] at hsh
    omega
  obtain ⟨r, hr, hrn⟩ : ∃ r : Nat, ((u : Int) % (n1 : Int)) = (r : Int) ∧ r < n1 := ⟨u % n1, by simp, Nat.mod_lt _ (by omega)⟩
  have hcut := Bs.cut ho1.bs 0 r (by omega) (by rw [← Hn1.out]; omega)
  have Hcut : Hid (Bs w1 (.slice a1 r c1) ((sealB g k p).take r)) := by
    show Bs _ _ _
    rw [if_neg (by omega)] at hcut
    simpa [Addr.add] using hcut
  have Hno : Hid (¬ isFrame ((sealB g k p).take r)) := cut_noFrame hpl (by rw [← Hn1.out]; exact hrn)
  clear hcut
  go_wp2_with fail
  refine (First_any _ _ _ Hcut.out).mono ?_
  rintro e w4 hpost
  rcases hpost with ⟨hf, _, _, _, _⟩ | ⟨_, rfl, hb4⟩
  · exact absurd hf Hno.out
  · unfold packBad
    go_wp2_with fail
    refine (wakes_any _).mono ?_
    rintro e w6 ⟨rfl, hb6⟩
    go_wp2_with fail
    go_ret
    exact ⟨rfl, (hb1.next hb4).next hb6⟩

end Cam
