import Derived.Test.YtfkkojdaceedpaaPkU
import Derived.Test.YtfkkojdaceedpaaPkK
/- cambistlaw04: PackSticks. -/
namespace Cam
open Go Go.RowKit Go.Proofs

theorem Kept.lowG {w w' : World} {B g : Nat} (h : Kept (fun k => k = g) w w') (hB : B ≤ g) (hg : g < w.heap.size) : Below B w w' := h.below (by rintro k hk rfl; omega) (by omega)

theorem rI_stick {s : RS} {lg : Bool} (h : lg = true → s.2 = 5) : lg = true → (rI s).1 = 0 ∧ (rI s).2 = s := fun hl => by rw [rI_err s (by rw [h hl]; decide)]; exact ⟨rfl, rfl⟩
theorem rM_stick {s : RS} {lg : Bool} (h : lg = true → s.2 = 5) : lg = true → (rM s).1 = false ∧ (rM s).2 = s := fun hl => by rw [rM_err s (by rw [h hl]; decide)]; exact ⟨rfl, rfl⟩
theorem rT_stick {s : RS} {lg : Bool} (h : lg = true → s.2 = 5) : lg = true → (rT s).1 = [] ∧ (rT s).2 = s := fun hl => by rw [rT_err s (by rw [h hl]; decide)]; exact ⟨rfl, rfl⟩

set_option maxRecDepth 100000 in
set_option maxHeartbeats 1600000 in
theorem PackSticks_walk (w : World) (v0 v1 : Value) (l : List UInt8) (ks : List Int) (h : Bs w v0 l) (hks : Is w v1 ks) :
    Calls Try.prog 6 #[v0, v1] w fun e w' => e = .returned (.bool true) ∧ Below w.heap.size w w' := by
  obtain ⟨a, cap, rfl, hcap, hm⟩ := h.shape
  obtain ⟨ak, capk, rfl, hcapk, hmk⟩ := hks.shape
  by_cases hbig : 131072 < l.length
  · have hli : (131072 : Int) < (l.length : Int) := by omega
    go_enter Try.func6, Try.ntmps6
    go_wp2_with fail
    go_ret
    exact ⟨rfl, Below.refl _ _⟩
  · have hli : decide ((131072 : Int) < (l.length : Int)) = false := by simp; omega
    by_cases hkb : 200 < ks.length
    · have hki : (200 : Int) < (ks.length : Int) := by omega
      go_enter Try.func6, Try.ntmps6
      go_wp2_with fail
      go_ret
      exact ⟨rfl, Below.refl _ _⟩
    · have hki : decide ((200 : Int) < (ks.length : Int)) = false := by simp; omega
      have hnr := NewReader_any w _ l h (by omega)
      go_enter Try.func6, Try.ntmps6
      go_wp2_with fail
      refine hnr.mono ?_
      rintro e w1 ⟨g, rfl, hg, hrd0, hb0⟩
      clear hnr
      go_wp2_with fail
      go_loopw [6, 7] (fun lgv i wr => ∃ (k : Nat) (lg : Bool) (s : RS), k ≤ ks.length ∧ lgv = .bool lg ∧ i = .int .i64 k ∧ RD wr g s ∧ Hid (lg = true → s.2 = 5) ∧ s.1.length ≤ l.length ∧ Below w.heap.size w wr) (fun _ i _ => ks.length - (intOf i).toNat)
      case atStart => exact ⟨0, false, _, Nat.zero_le _, rfl, rfl, hrd0, (fun h => absurd h (by decide)), Nat.le_refl _, hb0⟩
      case round =>
        obtain ⟨k, lg, s, hk, rfl, rfl, hrd, HLG, hsl, hb⟩ := hrel
        clear hrd0 hb0
        by_cases hlt : k < ks.length
        · obtain ⟨bk, offk, rfl, _, hc⟩ := (hks.mono hb).at (by omega)
          have hck := hc k hlt
          clear hc
          obtain ⟨n, hn⟩ : ∃ n, n = ks[k] := ⟨_, rfl⟩
          rw [← hn] at hck
          clear hn
          rcases ck_cases n with hkk | hkk | hkk
          · have hk' : (IntKind.u64.wrap n).tmod 3 = 0 := hkk
            have hi := RInt_any wr g s hrd (by omega)
            have hst := rI_stick HLG.out
            have hsl2 := rI_len s
            obtain ⟨x, hx⟩ : ∃ x, x = (rI s).1 := ⟨_, rfl⟩
            obtain ⟨s', hs'⟩ : ∃ s', s' = (rI s).2 := ⟨_, rfl⟩
            rw [← hx, ← hs'] at hi hst
            rw [← hs'] at hsl2
            have HST := Lib.hid hst
            clear hx hs' hst hkk
            cases lg with
            | true =>
              have h5 := HLG.out rfl
              obtain ⟨rfl, rfl⟩ := HST.out rfl
              have hD := fun w h => Done_any w g s' h
              rw [(rD_long s').2 h5] at hD
              have H5 := Lib.hid h5
              clear h5
              go_wp2_with fail
              refine hi.mono ?_
              rintro e w2 ⟨rfl, h2, hk2⟩
              clear hi
              go_wp2_with (first | (go_at_call 22; refine (hD _ h2).mono ?_; rintro e w3 ⟨rfl, rfl⟩) | fail)
              exact ⟨⟨k + 1, true, s', by omega, rfl, by push_cast; rfl, h2, (fun _ => H5.out), by omega, hb.trans (hk2.lowG hg hrd.lt)⟩, by simp [intOf]; omega⟩
            | false =>
              go_wp2_with fail
              refine hi.mono ?_
              rintro e w2 ⟨rfl, h2, hk2⟩
              clear hi
              go_wp2_with (first | (go_at_call 22; refine (Done_any _ g s' h2).mono ?_; rintro e w3 ⟨rfl, rfl⟩) | fail)
              exact ⟨⟨k + 1, _, s', by omega, rfl, by push_cast; rfl, h2, (fun h => (rD_long s').1 (by simpa using h)), by omega, hb.trans (hk2.lowG hg hrd.lt)⟩, by simp [intOf]; omega⟩
          · have hk' : (IntKind.u64.wrap n).tmod 3 = 1 := hkk
            have hi := RMark_any wr g s hrd
            have hst := rM_stick HLG.out
            have hsl2 := rM_len s
            obtain ⟨x, hx⟩ : ∃ x, x = (rM s).1 := ⟨_, rfl⟩
            obtain ⟨s', hs'⟩ : ∃ s', s' = (rM s).2 := ⟨_, rfl⟩
            rw [← hx, ← hs'] at hi hst
            rw [← hs'] at hsl2
            have HST := Lib.hid hst
            clear hx hs' hst hkk
            cases lg with
            | true =>
              have h5 := HLG.out rfl
              obtain ⟨rfl, rfl⟩ := HST.out rfl
              have hD := fun w h => Done_any w g s' h
              rw [(rD_long s').2 h5] at hD
              have H5 := Lib.hid h5
              clear h5
              go_wp2_with fail
              refine hi.mono ?_
              rintro e w2 ⟨rfl, h2, hk2⟩
              clear hi
              go_wp2_with (first | (go_at_call 22; refine (hD _ h2).mono ?_; rintro e w3 ⟨rfl, rfl⟩) | fail)
              exact ⟨⟨k + 1, true, s', by omega, rfl, by push_cast; rfl, h2, (fun _ => H5.out), by omega, hb.trans (hk2.lowG hg hrd.lt)⟩, by simp [intOf]; omega⟩
            | false =>
              go_wp2_with fail
              refine hi.mono ?_
              rintro e w2 ⟨rfl, h2, hk2⟩
              clear hi
              go_wp2_with (first | (go_at_call 22; refine (Done_any _ g s' h2).mono ?_; rintro e w3 ⟨rfl, rfl⟩) | fail)
              exact ⟨⟨k + 1, _, s', by omega, rfl, by push_cast; rfl, h2, (fun h => (rD_long s').1 (by simpa using h)), by omega, hb.trans (hk2.lowG hg hrd.lt)⟩, by simp [intOf]; omega⟩
          · have hk' : (IntKind.u64.wrap n).tmod 3 = 2 := hkk
            have hi := RText_any wr g s hrd (by omega)
            have hst := rT_stick HLG.out
            have hsl2 := rT_len s
            unfold RTPost at hi
            obtain ⟨x, hx⟩ : ∃ x, x = (rT s).1 := ⟨_, rfl⟩
            obtain ⟨s', hs'⟩ : ∃ s', s' = (rT s).2 := ⟨_, rfl⟩
            rw [← hx, ← hs'] at hi hst
            rw [← hs'] at hsl2
            have HST := Lib.hid hst
            clear hx hs' hst hkk
            cases lg with
            | true =>
              have h5 := HLG.out rfl
              obtain ⟨rfl, rfl⟩ := HST.out rfl
              have hD := fun w h => Done_any w g s' h
              rw [(rD_long s').2 h5] at hD
              have H5 := Lib.hid h5
              clear h5
              go_wp2_with fail
              refine hi.mono ?_
              rintro e w2 ⟨r, rfl, ho2, h2, hk2⟩
              obtain ⟨a2, n2, c2, rfl, Hn2, _⟩ := OwnB.named ho2
              have hn2 : n2 = 0 := Hn2.out
              clear hi
              go_wp2_with (first | (go_at_call 22; refine (hD _ h2).mono ?_; rintro e w3 ⟨rfl, rfl⟩) | fail)
              exact ⟨⟨k + 1, true, s', by omega, rfl, by push_cast; rfl, h2, (fun _ => H5.out), by omega, hb.trans (hk2.lowG hg hrd.lt)⟩, by simp [intOf]; omega⟩
            | false =>
              go_wp2_with fail
              refine hi.mono ?_
              rintro e w2 ⟨r, rfl, ho2, h2, hk2⟩
              obtain ⟨a2, n2, c2, rfl, Hn2, _⟩ := OwnB.named ho2
              clear hi
              go_wp2_with (first | (go_at_call 22; refine (Done_any _ g s' h2).mono ?_; rintro e w3 ⟨rfl, rfl⟩) | fail)
              exact ⟨⟨k + 1, _, s', by omega, rfl, by push_cast; rfl, h2, (fun h => (rD_long s').1 (by simpa using h)), by omega, hb.trans (hk2.lowG hg hrd.lt)⟩, by simp [intOf]; omega⟩
        · go_wp2_with fail
          refine (wakes_any _).mono ?_
          rintro e w2 ⟨rfl, hb2⟩
          go_wp2_with fail
          go_ret
          exact ⟨rfl, hb.next hb2⟩

end Cam
