import Derived.Test.YteabnccmomdnpaaClC
/- slices.BinarySearchFunc over calls, by put's closure. -/
namespace Cam
open Go Go.RowKit Go.Proofs

/-- where a call stands among calls that rise -/
def Found (l : List CT) (who cur : Int) (i : Nat) : Prop := i ≤ l.length ∧ (∀ q (hq : q < l.length), q < i → cmpK l[q] who cur < 0) ∧ (∀ q (hq : q < l.length), i ≤ q → 0 ≤ cmpK l[q] who cur)
/-- the calls below one are not above it -/
def Rises (l : List CT) (who cur : Int) : Prop := ∀ p q (hq : q < l.length) (hpq : p ≤ q), (cmpK l[q] who cur < 0 → cmpK (l[p]'(by omega)) who cur < 0)
def BsfPost (w : World) (l : List CT) (who cur : Int) (e : Ending) (w' : World) : Prop :=
  ∃ i : Nat, Found l who cur i ∧ e = .returned (.tuple #[.int .i64 i, .bool (decide (∃ h : i < l.length, cmpK l[i] who cur = 0))]) ∧ Below w.heap.size w w'

set_option maxRecDepth 100000 in
set_option maxHeartbeats 1600000 in
theorem bsf_any (w : World) (v : Value) (l : List CT) (z : Int) (g : Nat) (who cur : Int) (h : Cs w v l) (hl : l.length ≤ 100000) (hr : Rises l who cur) (hd : w.cell? ⟨g, 0, none⟩ = some (.int .i64 who) ∧ w.cell? ⟨g, 1, none⟩ = some (.int .i64 cur)) :
    Calls Try.prog 39 #[v, .int .i64 z, .func (.func 40) #[] #[.pointer (some ⟨g, 0, none⟩)]] w (BsfPost w l who cur) := by
  obtain ⟨av, cap, rfl, hcap, hm⟩ := h.shape
  obtain ⟨n, hn⟩ : ∃ n, n = l.length := ⟨_, rfl⟩
  have HN := Lib.hid hn
  have HR := Lib.hid hr
  rw [← hn] at hcap hl
  rw [← hn] at h ⊢
  clear hn hr
  go_enter Try.func39, Try.ntmps39
  go_wp2_with fail
  go_loopw [9, 10] (fun vi vj wr => ∃ i j : Nat, i ≤ j ∧ j ≤ n ∧ vi = .int .i64 i ∧ vj = .int .i64 j ∧ Hid ((∀ q (hq : q < l.length), q < i → cmpK l[q] who cur < 0) ∧ (∀ q (hq : q < l.length), j ≤ q → 0 ≤ cmpK l[q] who cur)) ∧ Below w.heap.size w wr) (fun vi vj _ => (intOf vj - intOf vi).toNat)
  case atStart => exact ⟨0, n, Nat.zero_le _, Nat.le_refl _, rfl, rfl, ⟨fun q hq h => by omega, fun q hq h => by have := HN.out; omega⟩, Below.refl _ _⟩
  case round =>
    obtain ⟨i, j, hij, hjn, rfl, rfl, HI, hbel⟩ := hrel
    by_cases hlt : i < j
    · obtain ⟨m, hm2⟩ : ∃ m, m = (i + j) / 2 := ⟨_, rfl⟩
      have hmij : i ≤ m ∧ m < j := by omega
      have hml : m < l.length := by have := HN.out; omega
      obtain ⟨b, off, rfl, _, hc⟩ := Cs.at4 (h.mono hbel) (by omega)
      obtain ⟨c, hcx⟩ : ∃ c, c = l[m] := ⟨_, rfl⟩
      obtain ⟨hc0, hc1, hc2, hc3⟩ := hc m hml
      rw [← hcx] at hc0 hc1 hc2 hc3
      rw [hm2] at hc0 hc1 hc2 hc3
      have hdr : wr.cell? ⟨g, 0, none⟩ = some (.int .i64 who) ∧ wr.cell? ⟨g, 1, none⟩ = some (.int .i64 cur) := keepC2 hbel hd
      have cl := clo_any wr c z g who cur hdr
      have HLT : Hid (cmpK c who cur < 0 → ((∀ q (hq : q < l.length), q < m + 1 → cmpK l[q] who cur < 0) ∧ (∀ q (hq : q < l.length), j ≤ q → 0 ≤ cmpK l[q] who cur))) := by
        intro hx
        rw [hcx] at hx
        exact ⟨fun q hq hqm => HR.out q m hml (by omega) hx, HI.out.2⟩
      have HGE : Hid (¬ cmpK c who cur < 0 → ((∀ q (hq : q < l.length), q < i → cmpK l[q] who cur < 0) ∧ (∀ q (hq : q < l.length), m ≤ q → 0 ≤ cmpK l[q] who cur))) := by
        intro hx
        rw [hcx] at hx
        refine ⟨HI.out.1, fun q hq hqm => ?_⟩
        by_cases hneg : cmpK l[q] who cur < 0
        · exact absurd (HR.out m q hq hqm hneg) hx
        · omega
      obtain ⟨x, hx⟩ : ∃ x, x = cmpK c who cur := ⟨_, rfl⟩
      rw [← hx] at cl HLT HGE
      have HM := Lib.hid hm2
      clear hx hcx hc hd hdr hm2
      obtain ⟨cw, cc, ca, ct⟩ := c
      unfold CT.vs at cl
      simp only at hc0 hc1 hc2 hc3
      by_cases hneg : x < 0
      · have HN2 := Lib.hid (HLT.out hneg)
        clear HLT HGE
        go_wp2_with fail
        refine cl.mono ?_
        rintro e w1 ⟨rfl, hb1⟩
        have hbe := hbel.next hb1
        clear cl hb1 hc0 hc1 hc2 hc3
        go_wp2_with fail
        exact ⟨⟨(i + j) / 2 + 1, j, by omega, hjn, by push_cast; rfl, rfl, by rw [← HM.out]; exact HN2.out, hbe⟩, by simp [intOf]; omega⟩
      · have hneg' : decide (x < 0) = false := by simpa using hneg
        have HN2 := Lib.hid (HGE.out hneg)
        clear HLT HGE hneg
        go_wp2_with fail
        refine cl.mono ?_
        rintro e w1 ⟨rfl, hb1⟩
        have hbe := hbel.next hb1
        clear cl hb1 hc0 hc1 hc2 hc3
        go_wp2_with fail
        exact ⟨⟨i, (i + j) / 2, by omega, by omega, rfl, by push_cast; rfl, by rw [← HM.out]; exact HN2.out, hbe⟩, by simp [intOf]; omega⟩
    · obtain rfl : i = j := by omega
      have HF : Hid (Found l who cur i) := ⟨by have := HN.out; omega, HI.out.1, HI.out.2⟩
      clear HI
      by_cases hin : i < n
      · have hil : i < l.length := by have := HN.out; omega
        obtain ⟨b, off, rfl, _, hc⟩ := Cs.at4 (h.mono hbel) (by omega)
        obtain ⟨c, hcx⟩ : ∃ c, c = l[i] := ⟨_, rfl⟩
        obtain ⟨hc0, hc1, hc2, hc3⟩ := hc i hil
        rw [← hcx] at hc0 hc1 hc2 hc3
        have hdr : wr.cell? ⟨g, 0, none⟩ = some (.int .i64 who) ∧ wr.cell? ⟨g, 1, none⟩ = some (.int .i64 cur) := keepC2 hbel hd
        have cl := clo_any wr c z g who cur hdr
        obtain ⟨x, hx⟩ : ∃ x, x = cmpK c who cur := ⟨_, rfl⟩
        have HX : Hid (decide (∃ h : i < l.length, cmpK l[i] who cur = 0) = decide (x = 0)) := by
          show _ = _
          apply decide_eq_decide.2
          rw [hx, hcx]
          exact ⟨fun ⟨_, e⟩ => e, fun e => ⟨hil, e⟩⟩
        rw [← hx] at cl
        clear hx hcx hc hd hdr
        obtain ⟨cw, cc, ca, ct⟩ := c
        unfold CT.vs at cl
        simp only at hc0 hc1 hc2 hc3
        by_cases h0 : x = 0
        · subst h0
          go_wp2_with fail
          refine cl.mono ?_
          rintro e w1 ⟨rfl, hb1⟩
          have hbe := hbel.next hb1
          clear cl hb1 hc0 hc1 hc2 hc3
          go_wp2_with fail
          go_ret2
          exact ⟨i, HF.out, by rw [HX.out]; rfl, hbe⟩
        · have h0' : (x == 0) = false := by simpa using h0
          go_wp2_with fail
          refine cl.mono ?_
          rintro e w1 ⟨rfl, hb1⟩
          have hbe := hbel.next hb1
          clear cl hb1 hc0 hc1 hc2 hc3
          go_wp2_with fail
          go_ret2
          exact ⟨i, HF.out, by rw [HX.out, decide_eq_false h0]; rfl, hbe⟩
      · have HX : Hid (decide (∃ h : i < l.length, cmpK l[i] who cur = 0) = false) := by
          show _ = _
          exact decide_eq_false (fun ⟨h, _⟩ => by have := HN.out; omega)
        go_wp2_with fail
        go_ret2
        exact ⟨i, HF.out, by rw [HX.out]; rfl, hbel⟩

end Cam
