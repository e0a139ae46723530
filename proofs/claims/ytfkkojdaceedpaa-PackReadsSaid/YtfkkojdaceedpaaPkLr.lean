import Derived.Test.YtfkkojdaceedpaaPkX
import Derived.Test.YtfkkojdaceedpaaPkLs
/- cambistlaw04: PackReads. -/
namespace Cam
open Go Go.RowKit Go.Proofs

set_option maxRecDepth 100000 in
set_option maxHeartbeats 3200000 in
theorem PackReads_walk (w : World) (v0 v1 : Value) (l : List UInt8) (ks : List Int) (h : Bs w v0 l) (hks : Is w v1 ks) :
    Calls Try.prog 5 #[v0, v1] w fun e w' => e = .returned (.bool true) ∧ Below w.heap.size w w' := by
  obtain ⟨a, cap, rfl, hcap, hm⟩ := h.shape
  obtain ⟨ak, capk, rfl, hcapk, hmk⟩ := hks.shape
  by_cases hbig : 131072 < l.length
  · have hli : (131072 : Int) < (l.length : Int) := by omega
    go_enter Try.func5, Try.ntmps5
    go_wp2_with fail
    go_ret
    exact ⟨rfl, Below.refl _ _⟩
  · have hli : decide ((131072 : Int) < (l.length : Int)) = false := by simp; omega
    by_cases hkb : 200 < ks.length
    · have hki : (200 : Int) < (ks.length : Int) := by omega
      go_enter Try.func5, Try.ntmps5
      go_wp2_with fail
      go_ret
      exact ⟨rfl, Below.refl _ _⟩
    · have hki : decide ((200 : Int) < (ks.length : Int)) = false := by simp; omega
      go_enter Try.func5, Try.ntmps5
      go_wp2_with fail
      refine (Twin_any _ _ l h (by omega)).mono ?_
      rintro e w1 ⟨r1, rfl, ho1, hb1⟩
      obtain ⟨a1, n1, c1, rfl, Hn1, ho1⟩ := OwnB.named ho1
      go_wp2_with fail
      refine (NewReader_far w1 _ l ho1.bs (by omega)).mono ?_
      rintro e w2 ⟨g, rfl, hg, hrd0, hb2, hfar⟩
      have ho2 := ho1.below hb2
      have hbb2 := hb1.next hb2
      have hlt0 : ∀ k, (Value.slice a1 n1 c1).ownBlock = some k → w.heap.size ≤ k ∧ k < w1.heap.size := fun k hk => World.ownsRow.lt ho1 k hk
      have Hlt0 := Lib.hid hlt0
      have Hfar := Lib.hid hfar
      have hg2 := hrd0.lt
      clear hlt0 hfar hrd0
      go_wp2_with fail
      refine (SpoilBytes_own _ _ _ _ ho2).mono ?_
      rintro e w3 ⟨rfl, hk3⟩
      have hrd3 := Hfar.out _ _ hk3 (fun k hk => (Hlt0.out k hk).2)
      have hb3 : Below w.heap.size w w3 := hbb2.trans (hk3.below (fun k hk e => by have := (Hlt0.out k e).1; omega) hbb2.size)
      have hsz1 := hb1.size
      have hsz3 := hk3.size
      clear Hfar Hlt0 hk3 ho2 ho1 hb2 hbb2
      go_wp2_with fail
      have hv0 : l ≠ [] → ∀ k, inBlock (.slice a l.length cap) k → k < w.heap.size := fun hn k hi => h.inlt hn hi
      have Hv := Lib.hid hv0
      have hq0 : QR (w3.alloc (.cells #[.slice a l.length cap, .int .i64 0, .int .i64 0] 49)) w3.heap.size l (.slice a l.length cap) 0 0 :=
        ⟨heap_new rfl, (h.mono hb3).alloc _, fun hn k hi => by have := Hv.out hn k hi; have := hb3.size; omega, Nat.zero_le _⟩
      have hg3 : g < w3.heap.size := hrd3.lt
      have hgw : w.heap.size ≤ g := Nat.le_trans hsz1 hg
      have hrd4 := hrd3.alloc (.cells #[.slice a l.length cap, .int .i64 0, .int .i64 0] 49)
      have hb4 := hb3.alloc hb3.size (.cells #[.slice a l.length cap, .int .i64 0, .int .i64 0] 49)
      have hll : l.length ≤ 131072 := by omega
      clear hrd3 hb3 hv0
      go_loopw [8] (fun i wr => ∃ (k : Nat) (s : RS) (p : Nat), k ≤ ks.length ∧ i = .int .i64 k ∧ RD wr g s ∧ QR wr w3.heap.size l (.slice a l.length cap) p s.2 ∧ Hid (l.drop p = s.1) ∧ s.1.length ≤ l.length ∧ Below w.heap.size w wr) (fun i _ => ks.length - (intOf i).toNat)
      case atStart => exact ⟨0, (l, 0), 0, Nat.zero_le _, rfl, hrd4, hq0, rfl, Nat.le_refl _, hb4⟩
      case round =>
        obtain ⟨k, s, p, hk, rfl, hrd, hqr, HP, hsl, hb⟩ := hrel
        clear hrd4 hq0 hb4
        by_cases hlt : k < ks.length
        · obtain ⟨bk, offk, rfl, _, hc⟩ := (hks.mono hb).at (by omega)
          have hck := hc k hlt
          clear hc
          obtain ⟨n, hn⟩ : ∃ n, n = ks[k] := ⟨_, rfl⟩
          rw [← hn] at hck
          clear hn
          have hpair : (l.drop p, s.2) = s := by rw [HP.out]
          have hlg := hrd.lt
          have hlq := hqr.lt
          have hvg : l ≠ [] → ∀ k, inBlock (.slice a l.length cap) k → k ≠ g := fun hn k hi => by have := Hv.out hn k hi; omega
          rcases ck_cases n with hkk | hkk | hkk
          · have hk' : (IntKind.u64.wrap n).tmod 3 = 0 := hkk
            have hi := RInt_any wr g s hrd (by omega)
            have hqc := fun w2 (hq : QR w2 w3.heap.size l (.slice a l.length cap) p s.2) => QInt_any w2 w3.heap.size l (.slice a l.length cap) p s.2 hq (by omega)
            have hsl2 := rI_len s
            rw [hpair] at hqc
            unfold QPost at hqc
            obtain ⟨x, hx⟩ : ∃ x, x = (rI s).1 := ⟨_, rfl⟩
            obtain ⟨s', hs'⟩ : ∃ s', s' = (rI s).2 := ⟨_, rfl⟩
            rw [← hx, ← hs'] at hi hqc
            rw [← hs'] at hsl2
            clear hx hs' hkk hpair
            go_wp2_with fail
            refine hi.mono ?_
            rintro e w2 ⟨rfl, h2, hk2⟩
            clear hi
            have hq2 := hqr.keptG hk2 (by omega) hvg
            have hb2 := hb.trans (hk2.lowG hgw hlg)
            go_wp2_with fail
            refine (hqc _ hq2).mono ?_
            rintro e w3' ⟨rfl, p2, hQ5, HP2', hk3⟩
            have hR5 := h2.kept hk3 (fun k hk e => by omega)
            have hb5 := hb2.trans (hk3.lowG (by omega) hq2.lt)
            have HP2 : Hid (l.drop p2 = s'.1) := HP2'
            have hqd := fun w h => QDone_any w w3.heap.size l (.slice a l.length cap) p2 s'.2 h
            rw [show (l.drop p2, s'.2) = s' by rw [HP2']] at hqd
            clear hqc hq2 h2 hrd hqr HP2' hb2 hb
            go_wp2_with (first
              | (go_at_call 22; refine (Done_any _ g s' hR5).mono ?_; rintro e w6 ⟨rfl, rfl⟩)
              | (go_at_call 28; refine (hqd _ hQ5).mono ?_; rintro e w7 ⟨rfl, hb67⟩)
              | fail)
            have hR7 := hR5.below hb67
            have hQ7 := hQ5.below hb67
            have hb7 := hb5.next hb67
            exact ⟨⟨k + 1, s', p2, by omega, by push_cast; rfl, hR7, hQ7, HP2, by omega, hb7⟩, by simp [intOf]; omega⟩
          · have hk' : (IntKind.u64.wrap n).tmod 3 = 1 := hkk
            have hi := RMark_any wr g s hrd
            have hqc := fun w2 (hq : QR w2 w3.heap.size l (.slice a l.length cap) p s.2) => QMark_any w2 w3.heap.size l (.slice a l.length cap) p s.2 hq
            have hsl2 := rM_len s
            rw [hpair] at hqc
            unfold QPost at hqc
            obtain ⟨x, hx⟩ : ∃ x, x = (rM s).1 := ⟨_, rfl⟩
            obtain ⟨s', hs'⟩ : ∃ s', s' = (rM s).2 := ⟨_, rfl⟩
            rw [← hx, ← hs'] at hi hqc
            rw [← hs'] at hsl2
            clear hx hs' hkk hpair
            go_wp2_with fail
            refine hi.mono ?_
            rintro e w2 ⟨rfl, h2, hk2⟩
            clear hi
            have hq2 := hqr.keptG hk2 (by omega) hvg
            have hb2 := hb.trans (hk2.lowG hgw hlg)
            go_wp2_with fail
            refine (hqc _ hq2).mono ?_
            rintro e w3' ⟨rfl, p2, hQ5, HP2', hk3⟩
            have hR5 := h2.kept hk3 (fun k hk e => by omega)
            have hb5 := hb2.trans (hk3.lowG (by omega) hq2.lt)
            have HP2 : Hid (l.drop p2 = s'.1) := HP2'
            have hqd := fun w h => QDone_any w w3.heap.size l (.slice a l.length cap) p2 s'.2 h
            rw [show (l.drop p2, s'.2) = s' by rw [HP2']] at hqd
            clear hqc hq2 h2 hrd hqr HP2' hb2 hb
            go_wp2_with (first
              | (go_at_call 22; refine (Done_any _ g s' hR5).mono ?_; rintro e w6 ⟨rfl, rfl⟩)
              | (go_at_call 28; refine (hqd _ hQ5).mono ?_; rintro e w7 ⟨rfl, hb67⟩)
              | fail)
            have hR7 := hR5.below hb67
            have hQ7 := hQ5.below hb67
            have hb7 := hb5.next hb67
            exact ⟨⟨k + 1, s', p2, by omega, by push_cast; rfl, hR7, hQ7, HP2, by omega, hb7⟩, by simp [intOf]; omega⟩
          · have hk' : (IntKind.u64.wrap n).tmod 3 = 2 := hkk
            have hi := RText_any wr g s hrd (by omega)
            have hqc := fun w2 (hq : QR w2 w3.heap.size l (.slice a l.length cap) p s.2) => QText_any w2 w3.heap.size l (.slice a l.length cap) p s.2 hq (by omega)
            have hsl2 := rT_len s
            rw [hpair] at hqc
            unfold RTPost at hi
            unfold QTPost at hqc
            unfold QPost at hqc
            obtain ⟨x, hx⟩ : ∃ x, x = (rT s).1 := ⟨_, rfl⟩
            obtain ⟨s', hs'⟩ : ∃ s', s' = (rT s).2 := ⟨_, rfl⟩
            rw [← hx, ← hs'] at hi hqc
            rw [← hs'] at hsl2
            clear hx hs' hkk hpair
            go_wp2_with fail
            refine hi.mono ?_
            rintro e w2 ⟨r, rfl, ho2, h2, hk2⟩
            obtain ⟨a2, n2, c2, rfl, Hn2, ho2⟩ := OwnB.named ho2
            clear hi
            have hq2 := hqr.keptG hk2 (by omega) hvg
            have hb2 := hb.trans (hk2.lowG hgw hlg)
            have hsz2 := hk2.size
            go_wp2_with fail
            refine (hqc _ hq2).mono ?_
            rintro e w3' ⟨r3, rfl, ho3, p2, hQ3, HP2', hk3⟩
            obtain ⟨a3, n3, c3, rfl, Hn3, ho3⟩ := OwnB.named ho3
            have hR3 := h2.kept hk3 (fun k hk e => by omega)
            have hb3 := hb2.trans (hk3.lowG (by omega) hq2.lt)
            have HP2 : Hid (l.drop p2 = s'.1) := HP2'
            have hqd := fun w h => QDone_any w w3.heap.size l (.slice a l.length cap) p2 s'.2 h
            rw [show (l.drop p2, s'.2) = s' by rw [HP2']] at hqd
            have ho23 : OwnB 5 w3' wr.heap.size (.slice a2 n2 c2) x := ownsRow_kept ho2 hk3 (fun k hk e => by have := (World.ownsRow.lt ho2 k hk).1; omega)
            clear hqc hq2 h2 hrd hqr HP2' hb2 hb ho2
            go_wp2_with fail
            refine (Bytes_same _ _ _ _ ho23.bs ho3.bs).mono ?_
            rintro e w4 ⟨rfl, hb34⟩
            have ho24 := ho23.below hb34
            have hR4 := hR3.below hb34
            have hQ4 := hQ3.below hb34
            have hb4 := hb3.next hb34
            clear ho23 ho3 hR3 hQ3 hb3
            go_wp2_with fail
            refine (SpoilBytes_any _ _ _ _ ho24).mono ?_
            rintro e w5 ⟨rfl, hb45⟩
            have hR5 := hR4.kept (kept_of_below hb45) (fun k hk e => by omega)
            have hQ5 := hQ4.kept (kept_of_below hb45) (fun k hk e => by omega)
            have hb5 : Below w.heap.size w w5 := hb4.trans (hb45.mono (by omega))
            clear hR4 hQ4 ho24
            go_wp2_with (first
              | (go_at_call 22; refine (Done_any _ g s' hR5).mono ?_; rintro e w6 ⟨rfl, rfl⟩)
              | (go_at_call 28; refine (hqd _ hQ5).mono ?_; rintro e w7 ⟨rfl, hb67⟩)
              | fail)
            have hR7 := hR5.below hb67
            have hQ7 := hQ5.below hb67
            have hb7 := hb5.next hb67
            exact ⟨⟨k + 1, s', p2, by omega, by push_cast; rfl, hR7, hQ7, HP2, by omega, hb7⟩, by simp [intOf]; omega⟩
        · go_wp2_with fail
          refine (wakes_any _).mono ?_
          rintro e w2 ⟨rfl, hb2⟩
          go_wp2_with fail
          go_ret
          exact ⟨rfl, hb.next hb2⟩

end Cam
