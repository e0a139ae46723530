import Derived.Test.YtpojkppgdedpaaaFrLow
import Derived.Test.YtpojkppgdedpaaaFrSeal
import Derived.Test.YtpojkppgdedpaaaKeep
/- FrameUnlike: the walk. -/
namespace Cam
open Go Go.RowKit Go.Proofs

theorem mayE_cases (gen no : Int) (n : Nat) : (mayE gen no n = 0 ∧ ∃ g k : Nat, gen = g ∧ no = k ∧ g ≤ 1099511627776 ∧ k ≤ 2147483647 ∧ n ≤ 65536) ∨ mayE gen no n = 3 ∨ mayE gen no n = 5 := by
  unfold mayE
  by_cases h1 : gen < 0 ∨ 1099511627776 < gen ∨ no < 0 ∨ 2147483647 < no
  · rw [if_pos h1]; exact Or.inr (Or.inl rfl)
  · rw [if_neg h1]
    by_cases h2 : 65536 < n
    · rw [if_pos h2]; exact Or.inr (Or.inr rfl)
    · rw [if_neg h2]
      exact Or.inl ⟨rfl, gen.toNat, no.toNat, by omega, by omega, by omega, by omega, by omega⟩

theorem seal_inj {g k g2 k2 : Nat} {p q : List UInt8} (hg : g ≤ 1099511627776) (hk : k ≤ 2147483647) (_hp : p.length ≤ 65536) (hg2 : g2 ≤ 1099511627776) (hk2 : k2 ≤ 2147483647) (hq : q.length ≤ 65536) :
    sealB g k p = sealB g2 k2 q ↔ (g = g2 ∧ k = k2 ∧ p = q) := by
  constructor
  · intro h
    have hl := congrArg List.length h
    rw [sealB_length, sealB_length] at hl
    unfold sealB headB at h
    simp only [List.append_assoc] at h
    have h1 := List.append_inj h rfl
    have h2 := List.append_inj h1.2 (by simp [be_length])
    have h3 := List.append_inj h2.2 (by simp [be_length])
    have h4 := List.append_inj h3.2 (by simp [be_length])
    have h5 := List.append_inj h4.2 (by simp [be_length])
    exact ⟨be_inj (by omega) (by omega) h2.1, be_inj (by omega) (by omega) h3.1, h5.2⟩
  · rintro ⟨rfl, rfl, rfl⟩
    rfl

theorem Seal_bad (w : World) (v : Value) (gen no : Int) (p : List UInt8) (h : Bs w v p) (c : Int) (hc : c ≠ 0) (hm : mayE gen no p.length = c) :
    Calls Try.prog 13 #[.int .i64 gen, .int .i64 no, v] w fun e w' => e = .returned (.tuple #[.slice none 0 0, .int .i64 c]) ∧ w = w' := by
  have := Seal_no w v gen no p h (by rw [hm]; exact hc)
  rwa [hm] at this

set_option maxHeartbeats 1600000 in
theorem FrameUnlike_walk (w : World) (gen no gen2 no2 : Int) (vp vq : Value) (p q : List UInt8) (hp : Bs w vp p) (hq : Bs w vq q) :
    Calls Try.prog 4 #[.int .i64 gen, .int .i64 no, .int .i64 gen2, .int .i64 no2, vp, vq] w fun e w' => e = .returned (.bool true) ∧ Below w.heap.size w w' := by
  obtain ⟨ap, cp, rfl, hcp, hmp⟩ := hp.shape
  obtain ⟨aq, cq, rfl, hcq, hmq⟩ := hq.shape
  by_cases hbp : 65536 < (p.length : Int)
  · go_enter Try.func4, Try.ntmps4
    go_wp2
    go_ret
    exact ⟨rfl, Below.refl _ _⟩
  by_cases hbq : 65536 < (q.length : Int)
  · go_enter Try.func4, Try.ntmps4
    go_wp2
    go_ret
    exact ⟨rfl, Below.refl _ _⟩
  rcases mayE_cases gen no p.length with ⟨_, g, k, rfl, rfl, hg, hk, hpl⟩ | hm
  · rcases mayE_cases gen2 no2 q.length with ⟨_, g2, k2, rfl, rfl, hg2, hk2, hql⟩ | hm2
    · have hinj := seal_inj hg hk hpl hg2 hk2 hql
      have Hinj := Lib.hid hinj
      clear hinj
      go_enter Try.func4, Try.ntmps4
      go_wp2_with fail
      refine (Seal_ok _ _ g k p hp hg hk hpl).mono ?_
      rintro e w1 ⟨v1, rfl, ho1, hb1⟩
      obtain ⟨a1, n1, c1, rfl, Hn1, ho1⟩ := ho1.named
      go_wp2_with fail
      refine (Seal_ok _ _ g2 k2 q (hq.mono hb1) hg2 hk2 hql).mono ?_
      rintro e w2 ⟨v2, rfl, ho2, hb2⟩
      obtain ⟨a2, n2, c2, rfl, Hn2, ho2⟩ := ho2.named
      have hbw2 := hb1.next hb2
      go_wp2_with fail
      refine (Bytes_any _ _ _ _ _ (ho1.bs.mono hb2) ho2.bs).mono ?_
      rintro e w3 ⟨rfl, hb3⟩
      have hbw3 := hbw2.next hb3
      by_cases e1 : g = g2
      · by_cases e2 : k = k2
        · have hd : decide (sealB g k p = sealB g2 k2 q) = decide (p = q) := by rw [decide_eq_decide, Hinj.out]; simp [e1, e2]
          rw [hd]
          obtain ⟨bb, hbb⟩ : ∃ bb, bb = decide (p = q) := ⟨_, rfl⟩
          rw [← hbb]
          have Hbb := Lib.hid hbb
          clear hbb hd
          subst e1 e2
          go_wp2_with fail
          refine (Bytes_any _ _ _ _ _ (hp.mono hbw3) (hq.mono hbw3)).mono ?_
          rintro e w4 ⟨rfl, hb4⟩
          rw [← Hbb.out]
          go_wp2_with fail
          refine (wakes_any _).mono ?_
          rintro e w5 ⟨rfl, hb5⟩
          go_wp2_with fail
          go_ret
          exact ⟨rfl, (hbw3.next hb4).next hb5⟩
        · have hd : decide (sealB g k p = sealB g2 k2 q) = false := decide_eq_false (fun h => e2 (Hinj.out.1 h).2.1)
          rw [hd]
          have e2' : ((k : Int) == (k2 : Int)) = false := by simp; omega
          subst e1
          clear hd e2
          go_wp2_with fail
          refine (wakes_any _).mono ?_
          rintro e w5 ⟨rfl, hb5⟩
          go_wp2_with fail
          go_ret
          exact ⟨rfl, hbw3.next hb5⟩
      · have hd : decide (sealB g k p = sealB g2 k2 q) = false := decide_eq_false (fun h => e1 (Hinj.out.1 h).1)
        rw [hd]
        have e1' : ((g : Int) == (g2 : Int)) = false := by simp; omega
        clear hd e1
        go_wp2_with fail
        refine (wakes_any _).mono ?_
        rintro e w5 ⟨rfl, hb5⟩
        go_wp2_with fail
        go_ret
        exact ⟨rfl, hbw3.next hb5⟩
    · obtain ⟨c, hc, hm2⟩ : ∃ c, c ≠ 0 ∧ mayE gen2 no2 q.length = c := by rcases hm2 with h | h <;> exact ⟨_, by decide, h⟩
      have hc' : (c != 0) = true := by simp [hc]
      have Hm2 := Lib.hid hm2
      have Hc := Lib.hid hc
      clear hm2 hc
      go_enter Try.func4, Try.ntmps4
      go_wp2_with fail
      refine (Seal_ok _ _ g k p hp hg hk hpl).mono ?_
      rintro e w1 ⟨v1, rfl, ho1, hb1⟩
      obtain ⟨a1, n1, c1, rfl, Hn1, ho1⟩ := ho1.named
      go_wp2_with fail
      refine (Seal_bad _ _ gen2 no2 q (hq.mono hb1) c Hc.out Hm2.out).mono ?_
      rintro e w2 ⟨rfl, rfl⟩
      go_wp2_with fail
      refine (wakes_any _).mono ?_
      rintro e w5 ⟨rfl, hb5⟩
      go_wp2_with fail
      go_ret
      exact ⟨rfl, hb1.next hb5⟩
  · obtain ⟨c, hc, hm⟩ : ∃ c, c ≠ 0 ∧ mayE gen no p.length = c := by rcases hm with h | h <;> exact ⟨_, by decide, h⟩
    have hc' : (c != 0) = true := by simp [hc]
    have Hm := Lib.hid hm
    have Hc := Lib.hid hc
    clear hm hc
    go_enter Try.func4, Try.ntmps4
    go_wp2_with fail
    refine (Seal_bad _ _ gen no p hp c Hc.out Hm.out).mono ?_
    rintro e w1 ⟨rfl, rfl⟩
    go_wp2_with fail
    rcases mayE_cases gen2 no2 q.length with ⟨_, g2, k2, rfl, rfl, hg2, hk2, hql⟩ | hm2
    · refine (Seal_ok _ _ g2 k2 q hq hg2 hk2 hql).mono ?_
      rintro e w2 ⟨v2, rfl, ho2, hb2⟩
      obtain ⟨a2, n2, c2, rfl, Hn2, ho2⟩ := ho2.named
      go_wp2_with fail
      refine (wakes_any _).mono ?_
      rintro e w5 ⟨rfl, hb5⟩
      go_wp2_with fail
      go_ret
      exact ⟨rfl, hb2.next hb5⟩
    · obtain ⟨c2, hc2, hm2⟩ : ∃ c, c ≠ 0 ∧ mayE gen2 no2 q.length = c := by rcases hm2 with h | h <;> exact ⟨_, by decide, h⟩
      have Hm2 := Lib.hid hm2
      have Hc2 := Lib.hid hc2
      clear hm2 hc2
      refine (Seal_bad _ _ gen2 no2 q hq c2 Hc2.out Hm2.out).mono ?_
      rintro e w2 ⟨rfl, rfl⟩
      go_wp2_with fail
      refine (wakes_any _).mono ?_
      rintro e w5 ⟨rfl, hb5⟩
      go_wp2_with fail
      go_ret
      exact ⟨rfl, hb5⟩

end Cam
