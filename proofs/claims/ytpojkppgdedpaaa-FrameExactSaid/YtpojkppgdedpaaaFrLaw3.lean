import Derived.Test.YtpojkppgdedpaaaFrLow
import Derived.Test.YtpojkppgdedpaaaFrLaw2
import Derived.Test.YtpojkppgdedpaaaFrRFirst
/- FrameExact: the walk. -/
namespace Cam
open Go Go.RowKit Go.Proofs

set_option maxHeartbeats 3200000 in
theorem FrameExact_walk (w : World) (gen no : Int) (vp vb : Value) (p b : List UInt8) (hp : Bs w vp p) (hb : Bs w vb b) :
    Calls Try.prog 5 #[.int .i64 gen, .int .i64 no, vp, vb] w fun e w' => e = .returned (.bool true) ∧ Below w.heap.size w w' := by
  obtain ⟨ap, cp, rfl, hcp, hmp⟩ := hp.shape
  obtain ⟨ab, cb, rfl, hcb, hmb⟩ := hb.shape
  by_cases hbp : 131072 < (p.length : Int)
  · go_enter Try.func5, Try.ntmps5
    go_wp2
    go_ret
    exact ⟨rfl, Below.refl _ _⟩
  by_cases hbb : 131072 < (b.length : Int)
  · go_enter Try.func5, Try.ntmps5
    go_wp2
    go_ret
    exact ⟨rfl, Below.refl _ _⟩
  rcases mayE_cases gen no p.length with ⟨hm0, g, k, rfl, rfl, hg, hk, hpl⟩ | hm
  · have Hm0 := Lib.hid hm0
    clear hm0
    go_enter Try.func5, Try.ntmps5
    go_wp2_with fail
    refine (Twin_any _ _ p hp (by omega)).mono ?_
    rintro e w1 ⟨v1, rfl, ho1, hb1⟩
    obtain ⟨a1, n1, c1, rfl, Hn1, ho1⟩ := ho1.named
    go_wp2_with fail
    refine (Seal_ok _ _ g k p ho1.bs hg hk hpl).mono ?_
    rintro e w2 ⟨v2, rfl, ho2, hb2⟩
    obtain ⟨a2, n2, c2, rfl, Hn2, ho2⟩ := ho2.named
    have hbw2 := hb1.next hb2
    go_wp2_with fail
    refine (May_any _ _ _ _).mono ?_
    rintro e w3 ⟨rfl, rfl⟩
    rw [Hm0.out]
    go_wp2_with fail
    refine (refSeal_any _ _ g k p (hp.mono hbw2) hg hk hpl).mono ?_
    rintro e w4 ⟨v4, rfl, ho4, hb4⟩
    obtain ⟨a4, n4, c4, rfl, Hn4, ho4⟩ := ho4.named
    have hbw4 := hbw2.next hb4
    go_wp2_with fail
    refine (Bytes_any _ _ _ _ _ (ho2.bs.mono hb4) ho4.bs).mono ?_
    rintro e w5 ⟨rfl, hb5⟩
    rw [decide_eq_true rfl]
    have hbw5 := hbw4.next hb5
    go_wp2_with fail
    refine (Bytes_any _ _ _ _ _ (((ho1.bs.mono hb2).mono hb4).mono hb5) (hp.mono hbw5)).mono ?_
    rintro e w6 ⟨rfl, hb6⟩
    rw [decide_eq_true rfl]
    have hbw6 := hbw5.next hb6
    go_wp2_with fail
    refine (Twin_any _ _ b (hb.mono hbw6) (by omega)).mono ?_
    rintro e w20 ⟨v20, rfl, ho20, hb20⟩
    obtain ⟨a20, n20, c20, rfl, Hn20, ho20⟩ := ho20.named
    go_wp2_with fail
    refine (First_any _ _ b ho20.bs).mono ?_
    rintro e w21 hpost
    have hbw20 := (hbw6).next hb20
    rcases hpost with ⟨hf, v21, rfl, ho21, hb21⟩ | ⟨hf, rfl, hb21⟩
    · obtain ⟨a21, n21, c21, rfl, Hn21, ho21⟩ := ho21.named
      have hbw21 := hbw20.next hb21
      have Hf := Lib.hid hf
      clear hf
      go_wp2_with fail
      refine (refFirst_any _ _ b (hb.mono hbw21)).mono ?_
      rintro e w22 hpost
      rcases hpost with ⟨hf2, v22, rfl, ho22, hb22⟩ | ⟨hf2, _, _⟩
      · obtain ⟨a22, n22, c22, rfl, Hn22, ho22⟩ := ho22.named
        have hbw22 := hbw21.next hb22
        clear hf2
        go_wp2_with fail
        refine (Bytes_any _ _ _ _ _ (ho21.bs.mono hb22) ho22.bs).mono ?_
        rintro e w23 ⟨rfl, hb23⟩
        rw [decide_eq_true rfl]
        have hbw23 := hbw22.next hb23
        have hb2123 := hb22.next hb23
        go_wp2_with fail
        refine (SpoilBytes_any _ w20.heap.size _ _ (ho21.below hb2123)).mono ?_
        rintro e w24 ⟨rfl, hb24⟩
        have hbw24 := hbw23.trans (hb24.mono hbw20.size)
        have hb2024 := (hb21.next hb2123).trans hb24
        go_wp2_with fail
        refine (Bytes_any _ _ _ _ _ (ho20.bs.mono hb2024) (hb.mono hbw24)).mono ?_
        rintro e w25 ⟨rfl, hb25⟩
        rw [decide_eq_true rfl]
        go_wp2_with fail
        refine (wakes_any _).mono ?_
        rintro e w26 ⟨rfl, hb26⟩
        go_wp2_with fail
        go_ret
        exact ⟨rfl, (hbw24.next hb25).next hb26⟩
      · exact absurd Hf.out hf2
    · have hbw21 := hbw20.next hb21
      have Hf := Lib.hid hf
      clear hf
      unfold packBad
      go_wp2_with fail
      refine (refFirst_any _ _ b (hb.mono hbw21)).mono ?_
      rintro e w22 hpost
      rcases hpost with ⟨hf2, _, _, _, _⟩ | ⟨hf2, rfl, hb22⟩
      · exact absurd hf2 Hf.out
      · have hbw22 := hbw21.next hb22
        clear hf2
        unfold refBad
        go_wp2_with fail
        refine (Bytes_any _ _ _ [] [] (Bs.nil _) (Bs.nil _)).mono ?_
        rintro e w23 ⟨rfl, hb23⟩
        rw [decide_eq_true rfl]
        have hbw23 := hbw22.next hb23
        have hb2123 := hb22.next hb23
        go_wp2_with fail
        refine (SpoilBytes_any _ w20.heap.size _ [] (OwnB.empty _ _ _)).mono ?_
        rintro e w24 ⟨rfl, hb24⟩
        have hbw24 := hbw23.trans (hb24.mono hbw20.size)
        have hb2024 := (hb21.next hb2123).trans hb24
        go_wp2_with fail
        refine (Bytes_any _ _ _ _ _ (ho20.bs.mono hb2024) (hb.mono hbw24)).mono ?_
        rintro e w25 ⟨rfl, hb25⟩
        rw [decide_eq_true rfl]
        go_wp2_with fail
        refine (wakes_any _).mono ?_
        rintro e w26 ⟨rfl, hb26⟩
        go_wp2_with fail
        go_ret
        exact ⟨rfl, (hbw24.next hb25).next hb26⟩

  · obtain ⟨c, hc, hm⟩ : ∃ c, c ≠ 0 ∧ mayE gen no p.length = c := by rcases hm with h | h <;> exact ⟨_, by decide, h⟩
    have hc' : (c != 0) = true := by simp [hc]
    have hc'' : (c == 0) = false := by simp [hc]
    have hc3 : (c != c) = false := by simp
    have Hm := Lib.hid hm
    have Hc := Lib.hid hc
    clear hm hc
    go_enter Try.func5, Try.ntmps5
    go_wp2_with fail
    refine (Twin_any _ _ p hp (by omega)).mono ?_
    rintro e w1 ⟨v1, rfl, ho1, hb1⟩
    obtain ⟨a1, n1, c1, rfl, Hn1, ho1⟩ := ho1.named
    go_wp2_with fail
    refine (Seal_bad _ _ gen no p ho1.bs c Hc.out Hm.out).mono ?_
    rintro e w2 ⟨rfl, rfl⟩
    go_wp2_with fail
    refine (May_any _ _ _ _).mono ?_
    rintro e w3 ⟨rfl, rfl⟩
    rw [Hm.out]
    go_wp2_with fail
    refine (Bytes_any _ _ _ _ _ ho1.bs (hp.mono hb1)).mono ?_
    rintro e w6 ⟨rfl, hb6⟩
    rw [decide_eq_true rfl]
    have hbw6 := hb1.next hb6
    go_wp2_with fail
    refine (Twin_any _ _ b (hb.mono hbw6) (by omega)).mono ?_
    rintro e w20 ⟨v20, rfl, ho20, hb20⟩
    obtain ⟨a20, n20, c20, rfl, Hn20, ho20⟩ := ho20.named
    go_wp2_with fail
    refine (First_any _ _ b ho20.bs).mono ?_
    rintro e w21 hpost
    have hbw20 := (hbw6).next hb20
    rcases hpost with ⟨hf, v21, rfl, ho21, hb21⟩ | ⟨hf, rfl, hb21⟩
    · obtain ⟨a21, n21, c21, rfl, Hn21, ho21⟩ := ho21.named
      have hbw21 := hbw20.next hb21
      have Hf := Lib.hid hf
      clear hf
      go_wp2_with fail
      refine (refFirst_any _ _ b (hb.mono hbw21)).mono ?_
      rintro e w22 hpost
      rcases hpost with ⟨hf2, v22, rfl, ho22, hb22⟩ | ⟨hf2, _, _⟩
      · obtain ⟨a22, n22, c22, rfl, Hn22, ho22⟩ := ho22.named
        have hbw22 := hbw21.next hb22
        clear hf2
        go_wp2_with fail
        refine (Bytes_any _ _ _ _ _ (ho21.bs.mono hb22) ho22.bs).mono ?_
        rintro e w23 ⟨rfl, hb23⟩
        rw [decide_eq_true rfl]
        have hbw23 := hbw22.next hb23
        have hb2123 := hb22.next hb23
        go_wp2_with fail
        refine (SpoilBytes_any _ w20.heap.size _ _ (ho21.below hb2123)).mono ?_
        rintro e w24 ⟨rfl, hb24⟩
        have hbw24 := hbw23.trans (hb24.mono hbw20.size)
        have hb2024 := (hb21.next hb2123).trans hb24
        go_wp2_with fail
        refine (Bytes_any _ _ _ _ _ (ho20.bs.mono hb2024) (hb.mono hbw24)).mono ?_
        rintro e w25 ⟨rfl, hb25⟩
        rw [decide_eq_true rfl]
        go_wp2_with fail
        refine (wakes_any _).mono ?_
        rintro e w26 ⟨rfl, hb26⟩
        go_wp2_with fail
        go_ret
        exact ⟨rfl, (hbw24.next hb25).next hb26⟩
      · exact absurd Hf.out hf2
    · have hbw21 := hbw20.next hb21
      have Hf := Lib.hid hf
      clear hf
      unfold packBad
      go_wp2_with fail
      refine (refFirst_any _ _ b (hb.mono hbw21)).mono ?_
      rintro e w22 hpost
      rcases hpost with ⟨hf2, _, _, _, _⟩ | ⟨hf2, rfl, hb22⟩
      · exact absurd hf2 Hf.out
      · have hbw22 := hbw21.next hb22
        clear hf2
        unfold refBad
        go_wp2_with fail
        refine (Bytes_any _ _ _ [] [] (Bs.nil _) (Bs.nil _)).mono ?_
        rintro e w23 ⟨rfl, hb23⟩
        rw [decide_eq_true rfl]
        have hbw23 := hbw22.next hb23
        have hb2123 := hb22.next hb23
        go_wp2_with fail
        refine (SpoilBytes_any _ w20.heap.size _ [] (OwnB.empty _ _ _)).mono ?_
        rintro e w24 ⟨rfl, hb24⟩
        have hbw24 := hbw23.trans (hb24.mono hbw20.size)
        have hb2024 := (hb21.next hb2123).trans hb24
        go_wp2_with fail
        refine (Bytes_any _ _ _ _ _ (ho20.bs.mono hb2024) (hb.mono hbw24)).mono ?_
        rintro e w25 ⟨rfl, hb25⟩
        rw [decide_eq_true rfl]
        go_wp2_with fail
        refine (wakes_any _).mono ?_
        rintro e w26 ⟨rfl, hb26⟩
        go_wp2_with fail
        go_ret
        exact ⟨rfl, (hbw24.next hb25).next hb26⟩

end Cam
