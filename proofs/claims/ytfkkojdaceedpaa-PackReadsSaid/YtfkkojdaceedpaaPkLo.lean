import Derived.Test.YtfkkojdaceedpaaPkU
import Derived.Test.YtfkkojdaceedpaaPkL
import Derived.Test.YtfkkojdaceedpaaPkLs
/- cambistlaw04: PackOnly. -/
namespace Cam
open Go Go.RowKit Go.Proofs

theorem ownsRow_kept {S : Nat → Prop} {w w' : World} {base e size : Nat} {v : Value} {n : Nat} {xs : List Value} (h : w.ownsRow base e size v n xs) (hk : Kept S w w') (ha : ∀ k, v.ownBlock = some k → ¬ S k) : w'.ownsRow base e size v n xs := by
  refine ⟨h.1, ?_⟩
  rcases h.2 with h2 | ⟨g, cap, cur, rfl, hg, hh, r⟩
  · exact Or.inl h2
  · exact Or.inr ⟨g, cap, cur, rfl, hg, hk.heap hh (ha g rfl), r⟩
theorem PW.kept {S : Nat → Prop} {w w' : World} {g : Nat} {v : Value} {l : List UInt8} {lg : Bool} (h : PW w g v l lg) (hk : Kept S w w') (ha : ∀ k, g ≤ k → ¬ S k) : PW w' g v l lg :=
  ⟨hk.heap h.1 (ha g (Nat.le_refl _)), ownsRow_kept h.2 hk (fun k e => ha k (Nat.le_of_lt (h.row k e).1))⟩
theorem RD.written {w w' : World} {g gW : Nat} {s : RS} {v : Value} {l : List UInt8} {lg : Bool} (h : RD w g s) (hp : PW w gW v l lg) (hlt : g < gW) (hk : Kept (fun k => k = gW ∨ v.ownBlock = some k) w w') : RD w' g s :=
  h.kept hk (fun k hk => by
    rintro (e | e)
    · omega
    · have := (hp.row k e).1
      omega)
theorem OwnB.written {w w' : World} {B gW : Nat} {u : Value} {m : List UInt8} {v : Value} (h : OwnB 5 w B u m) (ha : ∀ k, u.ownBlock = some k → k ≠ gW ∧ v.ownBlock ≠ some k) (hk : Kept (fun k => k = gW ∨ v.ownBlock = some k) w w') : OwnB 5 w' B u m :=
  ownsRow_kept h hk (fun k hk => by
    rintro (e | e)
    · exact (ha k hk).1 e
    · exact (ha k hk).2 e)

set_option maxRecDepth 100000 in
set_option maxHeartbeats 1600000 in
theorem PackOnly_walk (w : World) (v0 v1 : Value) (l : List UInt8) (ks : List Int) (h : Bs w v0 l) (hks : Is w v1 ks) :
    Calls Try.prog 8 #[v0, v1] w fun e w' => e = .returned (.bool true) ∧ Below w.heap.size w w' := by
  obtain ⟨a, cap, rfl, hcap, hm⟩ := h.shape
  obtain ⟨ak, capk, rfl, hcapk, hmk⟩ := hks.shape
  by_cases hbig : 131072 < l.length
  · have hli : (131072 : Int) < (l.length : Int) := by omega
    go_enter Try.func8, Try.ntmps8
    go_wp2_with fail
    go_ret
    exact ⟨rfl, Below.refl _ _⟩
  · have hli : decide ((131072 : Int) < (l.length : Int)) = false := by simp; omega
    by_cases hkb : 200 < ks.length
    · have hki : (200 : Int) < (ks.length : Int) := by omega
      go_enter Try.func8, Try.ntmps8
      go_wp2_with fail
      go_ret
      exact ⟨rfl, Below.refl _ _⟩
    · have hki : decide ((200 : Int) < (ks.length : Int)) = false := by simp; omega
      have hnr := NewReader_any w _ l h (by omega)
      go_enter Try.func8, Try.ntmps8
      go_wp2_with fail
      refine hnr.mono ?_
      rintro e w1 ⟨g, rfl, hg, hrd0, hb0⟩
      clear hnr
      have hgl := hrd0.lt
      have hsz1 := hb0.size
      have hp0 := PW.new (w := w1) rfl
      go_wp2_with fail
      go_loopw [7] (fun i wr => ∃ (k : Nat) (s : RS) (v : Value) (m : List UInt8), k ≤ ks.length ∧ i = .int .i64 k ∧ PW wr w1.heap.size v m false ∧ RD wr g s ∧ m.length ≤ 70000 * k ∧ s.1.length ≤ l.length ∧ Hid (s.2 = 0 → m ++ s.1 = l) ∧ Below w.heap.size w wr) (fun i _ => ks.length - (intOf i).toNat)
      case atStart => exact ⟨0, (l, 0), _, _, Nat.zero_le _, rfl, hp0, hrd0.alloc _, by simp, Nat.le_refl _, (fun _ => rfl), hb0.alloc hsz1 _⟩
      case round =>
        obtain ⟨k, s, v, m, hk, rfl, hpw, hrd, hml, hsl, HM, hb⟩ := hrel
        clear hrd0 hb0 hp0
        by_cases hlt : k < ks.length
        · obtain ⟨bk, offk, rfl, _, hc⟩ := (hks.mono hb).at (by omega)
          have hck := hc k hlt
          clear hc
          obtain ⟨n, hn⟩ : ∃ n, n = ks[k] := ⟨_, rfl⟩
          rw [← hn] at hck
          clear hn
          rcases ck_cases n with hkk | hkk | hkk
          · have hk' : (IntKind.u64.wrap n).tmod 3 = 0 := hkk
            have hi := RInt_any wr g s hrd (by omega)
            have hok := @rI_ok s
            have hsl2 := rI_len s
            have hxr := rI_range s
            obtain ⟨x, hx⟩ : ∃ x, x = (rI s).1 := ⟨_, rfl⟩
            obtain ⟨s', hs'⟩ : ∃ s', s' = (rI s).2 := ⟨_, rfl⟩
            rw [← hs'] at hsl2 hi hok
            rw [← hx] at hi hok hxr
            have hel := (encI_length x hxr).1
            have HN : Hid (s'.2 = 0 → (m ++ encI x) ++ s'.1 = l) := by
              show _ → _
              intro h0
              obtain ⟨h1, h2⟩ := hok h0
              rw [List.append_assoc, ← h2]
              exact HM.out h1
            clear hok hkk hx hs'
            go_wp2_with fail
            refine hi.mono ?_
            rintro e w2 ⟨rfl, h2, hk2⟩
            clear hi
            have hp2 := hpw.kept hk2 (fun k hk e => by omega)
            have hb2 := hb.trans (hk2.lowG hg hrd.lt)
            have wi := WInt_any (w2.alloc (.cells #[.int .i64 x] 3)) w1.heap.size v m false (.slice (some ⟨w2.heap.size, 0, none⟩) 1 1) [x] (hp2.alloc _) (Is.lit1 w2 _ _)
              (fun w' hk => Is.block (l := [x]) (fr := (0, 0)) (e := 3) (hk.heap (heap_alloc_new w2 _) (by
                have := hp2.lt
                rintro (e | e)
                · omega
                · have := (hp2.row _ e).2
                  omega)) (Nat.le_refl _) (by simp [maxLen])) (by intro n hn; simp at hn; omega) (by simp; omega)
            rw [show encIs [x] = encI x by simp [encIs]] at wi
            have hrdA := h2.alloc (.cells #[.int .i64 x] 3)
            have hpA := hp2.alloc (.cells #[.int .i64 x] 3)
            have hbA := hb2.alloc (Nat.le_trans hb2.size (Nat.le_refl _)) (.cells #[.int .i64 x] 3)
            have hpow := hp2.row
            clear hpow
            go_wp2_with fail
            refine wi.mono ?_
            rintro e w3 ⟨rfl, v3, hp3, hk3, _⟩
            clear wi
            have h3 := hrdA.written hpA hgl hk3
            have hb3 := hbA.trans ((hpA.low hk3).mono hsz1)
            go_wp2_with fail
            exact ⟨⟨k + 1, s', v3, _, by omega, by push_cast; rfl, hp3, h3, by simp only [List.length_append]; omega, by omega, HN, hb3⟩, by simp [intOf]; omega⟩
          · have hk' : (IntKind.u64.wrap n).tmod 3 = 1 := hkk
            have hi := RMark_any wr g s hrd
            have hok := @rM_ok s
            have hsl2 := rM_len s
            obtain ⟨x, hx⟩ : ∃ x, x = (rM s).1 := ⟨_, rfl⟩
            obtain ⟨s', hs'⟩ : ∃ s', s' = (rM s).2 := ⟨_, rfl⟩
            rw [← hs'] at hsl2 hi hok
            rw [← hx] at hi hok
            have hel := markB_length x
            have HN : Hid (s'.2 = 0 → (m ++ markB x) ++ s'.1 = l) := by
              show _ → _
              intro h0
              obtain ⟨h1, h2⟩ := hok h0
              rw [List.append_assoc, ← h2]
              exact HM.out h1
            clear hok hkk hx hs'
            go_wp2_with fail
            refine hi.mono ?_
            rintro e w2 ⟨rfl, h2, hk2⟩
            clear hi
            have hp2 := hpw.kept hk2 (fun k hk e => by omega)
            have hb2 := hb.trans (hk2.lowG hg hrd.lt)
            have wi := WMark_any w2 w1.heap.size v m false x hp2 (by omega)
            have hrdA := h2
            have hpA := hp2
            have hbA := hb2
            have hpow := hp2.row
            clear hpow
            go_wp2_with fail
            refine wi.mono ?_
            rintro e w3 ⟨rfl, v3, hp3, hk3, _⟩
            clear wi
            have h3 := hrdA.written hpA hgl hk3
            have hb3 := hbA.trans ((hpA.low hk3).mono hsz1)
            go_wp2_with fail
            exact ⟨⟨k + 1, s', v3, _, by omega, by push_cast; rfl, hp3, h3, by simp only [List.length_append]; omega, by omega, HN, hb3⟩, by simp [intOf]; omega⟩
          · have hk' : (IntKind.u64.wrap n).tmod 3 = 2 := hkk
            have hi := RText_any wr g s hrd (by omega)
            have hok := @rT_ok s
            have hsl2 := rT_len s
            have hxr := rT_short s
            obtain ⟨x, hx⟩ : ∃ x, x = (rT s).1 := ⟨_, rfl⟩
            obtain ⟨s', hs'⟩ : ∃ s', s' = (rT s).2 := ⟨_, rfl⟩
            unfold RTPost at hi
            rw [← hs'] at hsl2 hi hok
            rw [← hx] at hi hok hxr
            have hel := (encI_length (x.length : Int) (by omega)).1
            have HN : Hid (s'.2 = 0 → (m ++ textB x) ++ s'.1 = l) := by
              show _ → _
              intro h0
              obtain ⟨h1, h2⟩ := hok h0
              rw [List.append_assoc, ← h2]
              exact HM.out h1
            clear hok hkk hx hs'
            go_wp2_with fail
            refine hi.mono ?_
            rintro e w2 ⟨r, rfl, ho2, h2, hk2⟩
            obtain ⟨a2, n2, c2, rfl, Hn2, ho2⟩ := OwnB.named ho2
            clear hi
            have hp2 := hpw.kept hk2 (fun k hk e => by omega)
            have hb2 := hb.trans (hk2.lowG hg hrd.lt)
            have wi := WText_ok w2 w1.heap.size v m false (.slice a2 n2 c2) x hp2 ho2.bs (fun w' hk => (OwnB.written ho2 (fun k hk => by
                have h1 := World.ownsRow.lt ho2 k hk
                have := hpw.lt
                refine ⟨by omega, fun e => ?_⟩
                have h2 := hpw.row k e
                omega) hk).bs) hxr (by omega)
            have hrdA := h2
            have hpA := hp2
            have hbA := hb2
            have hpow := hp2.row
            clear hpow
            go_wp2_with fail
            refine wi.mono ?_
            rintro e w3 ⟨rfl, v3, hp3, hk3, _⟩
            clear wi
            have h3 := hrdA.written hpA hgl hk3
            have hb3 := hbA.trans ((hpA.low hk3).mono hsz1)
            go_wp2_with fail
            exact ⟨⟨k + 1, s', v3, _, by omega, by push_cast; rfl, hp3, h3, by simp only [List.length_append, textB]; omega, by omega, HN, hb3⟩, by simp [intOf]; omega⟩
        · have hD := Done_any wr g s hrd
          have hdo := rD_ok s
          obtain ⟨d, hd⟩ : ∃ d, d = rD s := ⟨_, rfl⟩
          rw [← hd] at hD hdo
          clear hd
          by_cases hd0 : d = 0
          · subst hd0
            obtain ⟨h0, h1⟩ := hdo.1 rfl
            have hml' : m = l := by have := HM.out h0; rw [h1, List.append_nil] at this; exact this
            subst hml'
            clear hdo h0 h1 HM
            go_wp2_with fail
            refine hD.mono ?_
            rintro e w2 ⟨rfl, rfl⟩
            clear hD
            go_wp2_with fail
            refine (WBytes_ok _ _ _ _ hpw (by omega)).mono ?_
            rintro e w2 ⟨⟨r2, rfl, hr2⟩, hb2⟩
            obtain ⟨a3, n3, c3, rfl, Hn3, _⟩ := OwnB.named hr2
            have hbb2 := hb.next hb2
            have hbs2 := h.mono hbb2
            go_wp2_with (first | (go_at_call 15; refine (Bytes_same _ _ _ _ hr2.bs hbs2).mono ?_; rintro e w3 ⟨rfl, hb3⟩) | (go_at_call 14; refine (wakes_any _).mono ?_; rintro e w4 ⟨rfl, hb4⟩) | fail)
            go_ret
            exact ⟨rfl, (hbb2.next hb3).next hb4⟩
          · have hdb : ((d : Int) == 0) = false := by simp [hd0]
            go_wp2_with fail
            refine hD.mono ?_
            rintro e w2 ⟨rfl, rfl⟩
            clear hD
            go_wp2_with fail
            refine (wakes_any _).mono ?_
            rintro e w2 ⟨rfl, hb2⟩
            go_wp2_with fail
            go_ret
            exact ⟨rfl, hb.next hb2⟩

end Cam
