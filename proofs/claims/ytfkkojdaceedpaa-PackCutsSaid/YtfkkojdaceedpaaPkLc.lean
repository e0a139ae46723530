import Derived.Test.YtfkkojdaceedpaaPkGP
/- cambistlaw04: PackCuts. -/
namespace Cam
open Go Go.RowKit Go.Proofs

def heavyL (x : Item) : Bool := decide (ck x.kind = 0) && decide (1 < x.l.length)
def allB (l : List Item) : Bool := !l.any heavyL
theorem allB_at {l : List Item} (h : allB l = true) {k : Nat} (hk : k < l.length) : ck l[k].kind = 0 → l[k].l.length ≤ 1 := by
  intro h0
  simp only [allB, Bool.not_eq_true', List.any_eq_false] at h
  have := h _ (List.getElem_mem hk)
  simp only [heavyL, Bool.and_eq_true, decide_eq_true_eq] at this
  omega

set_option maxHeartbeats 800000 in
theorem all_any (w : World) (v : Value) (l : List Item) (h : Its w v l) :
    Calls Try.prog 31 #[v] w fun e w' => e = .returned (.bool (allB l)) ∧ w = w' := by
  obtain ⟨a, cap, rfl, hcap, hm⟩ := h.shape
  go_enter Try.func31, Try.ntmps31
  go_wp2_with fail
  go_loop [3] (fun i => ∃ k : Nat, k ≤ l.length ∧ i = .int .i64 k ∧ Hid ((l.take k).any heavyL = false)) (fun i => l.length - (intOf i).toNat)
  case atStart => exact ⟨0, Nat.zero_le _, rfl, rfl⟩
  case round =>
    obtain ⟨k, hk, rfl, Hn⟩ := hrel
    by_cases hlt : k < l.length
    · obtain ⟨b, off, rfl, _, hc⟩ := h.at (by omega)
      obtain ⟨vl, vt, ⟨hc0, hc1, _, hc3⟩, hil, hbt⟩ := hc k hlt
      clear hc
      obtain ⟨x, hx⟩ : ∃ x, x = l[k] := ⟨_, rfl⟩
      rw [← hx] at hil hbt hc0
      obtain ⟨al, cl, rfl, _, _⟩ := hil.shape
      have hT : Hid (heavyL x = true → allB l = false) := by
        show _ → _
        intro h1
        have : l.any heavyL = true := by
          rw [List.any_eq_true]
          exact ⟨l[k], List.getElem_mem _, by rw [← hx]; exact h1⟩
        unfold allB
        rw [this]
        rfl
      have hF : Hid (heavyL x = false → (l.take (k + 1)).any heavyL = false) := by
        show _ → _
        intro h1
        rw [take_snoc l k hlt, List.any_append, Hn.out, ← hx]
        simp [h1]
      clear hx
      rcases ck_cases x.kind with hkk | hkk | hkk
      · have hk' : (IntKind.u64.wrap x.kind).tmod 3 = 0 := hkk
        by_cases h2 : 1 < x.l.length
        · have h2i : (1 : Int) < (x.l.length : Int) := by omega
          have He := Lib.hid (hT.out (by simp [heavyL, hkk, h2]))
          clear hkk
          go_wp2_with fail
          go_ret
          exact ⟨by rw [He.out]; rfl, rfl⟩
        · have h2i : decide ((1 : Int) < (x.l.length : Int)) = false := by simp; omega
          have HE := Lib.hid (hF.out (by simp [heavyL, h2]))
          clear hkk
          go_wp2_with fail
          exact ⟨⟨k + 1, by omega, by push_cast; rfl, HE⟩, by simp [intOf]; omega⟩
      · have hk' : (IntKind.u64.wrap x.kind).tmod 3 = 1 := hkk
        have HE := Lib.hid (hF.out (by simp [heavyL, hkk]))
        clear hkk
        go_wp2_with fail
        exact ⟨⟨k + 1, by omega, by push_cast; rfl, HE⟩, by simp [intOf]; omega⟩
      · have hk' : (IntKind.u64.wrap x.kind).tmod 3 = 2 := hkk
        have HE := Lib.hid (hF.out (by simp [heavyL, hkk]))
        clear hkk
        go_wp2_with fail
        exact ⟨⟨k + 1, by omega, by push_cast; rfl, HE⟩, by simp [intOf]; omega⟩
    · have He : Hid (allB l = true) := by
        show _ = _
        have := Hn.out
        rw [List.take_of_length_le (by omega)] at this
        unfold allB
        rw [this]
        rfl
      go_wp2_with fail
      go_ret
      exact ⟨by rw [He.out]; rfl, rfl⟩

theorem as_u64' (x : Int) : ∃ u : Nat, IntKind.u64.wrap x = (u : Int) ∧ u < 18446744073709551616 := by
  refine ⟨(IntKind.u64.wrap x).toNat, ?_, ?_⟩
  · rw [IntKind.wrap_u64]
    omega
  · rw [IntKind.wrap_u64]
    omega

set_option maxRecDepth 100000 in
set_option maxHeartbeats 3200000 in
theorem PackCuts_walk (w : World) (v : Value) (l : List Item) (at0 : Int) (more : UInt8) (h : Its w v l) (k0 : ∀ x ∈ l, ∀ n ∈ x.l, -9223372036854775808 ≤ n ∧ n ≤ 9223372036854775807) :
    Calls Try.prog 9 #[v, .int .i64 at0, .int .u8 (more.toNat : Int)] w fun e w' => e = .returned (.bool true) ∧ Below w.heap.size w w' := by
  obtain ⟨a, cap, rfl, hcap, hm⟩ := h.shape
  obtain ⟨hv, hhv⟩ : ∃ hv, hv = heavyB l := ⟨_, rfl⟩
  have he := heavy_any w _ l h
  rw [← hhv] at he
  have HH := Lib.hid hhv
  have K0 := Lib.hid k0
  clear hhv k0
  cases hv with
  | true =>
    go_enter Try.func9, Try.ntmps9
    go_wp2_with fail
    refine he.mono ?_
    rintro e w1 ⟨rfl, rfl⟩
    go_wp2_with fail
    go_ret
    exact ⟨rfl, Below.refl _ _⟩
  | false =>
    by_cases hl0 : l.length = 0
    · obtain rfl : l = [] := List.length_eq_zero_iff.1 hl0
      go_enter Try.func9, Try.ntmps9
      go_wp2_with fail
      refine he.mono ?_
      rintro e w1 ⟨rfl, rfl⟩
      go_wp2_with fail
      go_ret
      exact ⟨rfl, Below.refl _ _⟩
    have hl1 : ((l.length : Int) == 0) = false := by simp; exact fun e => hl0 (by rw [e]; rfl)
    obtain ⟨u, hu, hu64⟩ := as_u64' at0
    have HN := Lib.hid (not_heavy HH.out.symm)
    have hn : l.length ≤ 200 := HN.out.1
    have hp0 := PW.new (w := w) rfl
    go_enter Try.func9, Try.ntmps9
    go_wp2_with fail
    refine he.mono ?_
    rintro e w1 ⟨rfl, rfl⟩
    go_wp2_with fail
    go_loopw [8] (fun i wr => ∃ (k : Nat) (v' : Value), k ≤ l.length ∧ i = .int .i64 k ∧ PW wr w.heap.size v' (itsB (l.take k)) false ∧ Hid (∀ y ∈ l.take k, y.t.length ≤ 65536) ∧ Below w.heap.size w wr) (fun i _ => l.length - (intOf i).toNat)
    case atStart => exact ⟨0, _, Nat.zero_le _, rfl, hp0, (by intro y hy; simp at hy), (Below.refl _ _).alloc (Nat.le_refl _) _⟩
    case round =>
      obtain ⟨k, v', hk, rfl, hpw, HT, hb⟩ := hrel
      clear hp0 he
      by_cases hlt : k < l.length
      · obtain ⟨b, off, rfl, _, hc⟩ := h.at2 hb (by omega)
        obtain ⟨vl, vt, ⟨hc0, hc1, hc2, hc3⟩, hil0, hbt0⟩ := hc k hlt
        clear hc
        obtain ⟨x, hx⟩ : ∃ x, x = l[k] := ⟨_, rfl⟩
        have hxx := HN.out.2 _ (List.getElem_mem hlt)
        have hxr := K0.out _ (List.getElem_mem hlt)
        rw [← hx] at hil0 hbt0 hc0 hc2 hxx hxr
        obtain ⟨at_, ct, rfl, _, _⟩ := hbt0.shape
        by_cases hlong : 65536 < x.t.length
        · have hli : (65536 : Int) < (x.t.length : Int) := by omega
          clear hpw HT hx
          go_wp2_with fail
          go_ret
          exact ⟨rfl, hb⟩
        · have hli : decide ((65536 : Int) < (x.t.length : Int)) = false := by simp; omega
          have hll := itsB_length (l.take k) (fun y hy => ⟨(HN.out.2 y (List.mem_of_mem_take hy)).2, K0.out y (List.mem_of_mem_take hy)⟩)
          have hl2 : (l.take k).length ≤ l.length := List.length_take_le' _ _
          have HB : Hid (itsB (l.take k) ++ itB x = itsB (l.take (k + 1))) := by show _ = _; rw [take_snoc l k hlt, itsB_snoc, ← hx]
          have HT2 : Hid (∀ y ∈ l.take (k + 1), y.t.length ≤ 65536) := by
            show ∀ y ∈ _, _
            intro y hy
            rw [take_snoc l k hlt, ← hx] at hy
            rcases List.mem_append.1 hy with hy | hy
            · exact HT.out y hy
            · simp at hy
              subst hy
              omega
          have HO : (false || itLong x) = false := by simp [itLong]; omega
          clear hx
          have wr_ := write_any wr w.heap.size v' (itsB (l.take k)) false x vl _ hpw (hil0.mono hb) (hbt0.mono hb)
            (fun w' hk' => hil0.mono (hb.trans (hpw.low hk'))) (fun w' hk' => hbt0.mono (hb.trans (hpw.low hk'))) hxr hxx.2 (by omega)
          rw [HB.out, HO] at wr_
          clear HO
          go_wp2_with fail
          refine wr_.mono ?_
          rintro e w1 ⟨rfl, v1, hp1, hk1, _⟩
          have hb1 := hb.trans (hpw.low hk1)
          clear wr_
          go_wp2_with fail
          exact ⟨⟨k + 1, _, by omega, by push_cast; rfl, hp1, HT2, hb1⟩, by simp [intOf]; omega⟩
      · rw [List.take_of_length_le (by omega)] at hpw HT
        have HL : Hid ((itsB l).length ≤ 70000 * l.length) := itsB_length l (fun y hy => ⟨(HN.out.2 y hy).2, K0.out y hy⟩)
        go_wp2_with fail
        refine (WBytes_ok _ _ _ _ hpw (by have := HL.out; omega)).mono ?_
        rintro e w2 ⟨⟨r2, rfl, hr2⟩, hb2⟩
        obtain ⟨a3, n3, c3, rfl, Hn3, hr2⟩ := OwnB.named hr2
        have hbb2 := hb.next hb2
        have hsz2 := hbb2.size
        have hn3 : n3 ≤ 14000000 := by have := HL.out; have := Hn3.out; omega
        have hc3 : n3 ≤ c3 := by
          obtain ⟨_, cc, hsh, h2, _⟩ := hr2.bs.shape
          have := Hn3.out
          simp only [Value.slice.injEq] at hsh
          omega
        clear hpw hb hb2
        by_cases hb0 : n3 = 0
        · subst hb0
          go_wp2_with fail
          refine (wakes_any _).mono ?_
          rintro e w3 ⟨rfl, hb3⟩
          go_wp2_with fail
          go_ret
          exact ⟨rfl, hbb2.next hb3⟩
        · have hn0 : ((n3 : Int) == 0) = false := by simp; omega
          obtain ⟨r, hr, hrn⟩ : ∃ r : Nat, ((u : Int) % (n3 : Int)) = (r : Int) ∧ r < n3 := ⟨u % n3, by simp, Nat.mod_lt _ (by omega)⟩
          have hr2b := hr2.bs
          clear hr2
          go_wp2_with fail
          clear hr hu hn0
          go_loopw [12] (fun i wr => ∃ k : Nat, k ≤ 2 ∧ i = .int .i64 k ∧ Below w2.heap.size w2 wr) (fun i _ => 2 - (intOf i).toNat)
          case atStart => exact ⟨0, by omega, rfl, Below.refl _ _⟩
          case round =>
            obtain ⟨k, hk, rfl, hb4⟩ := hrel
            have hb9 := hr2b.mono hb4
            obtain rfl | rfl | rfl : k = 0 ∨ k = 1 ∨ k = 2 := by omega
            · obtain ⟨Q, HQ⟩ : ∃ Q : Nat → RS → Prop, Hid (Q 0 ((itsB l).take r, 0) ∧ (∀ j s (hj : j < l.length), Q j s → Q (j + 1) (gotE l[j] s).2) ∧ (∀ s, Q l.length s → allB l = true → rD s ≠ 0)) := by
                refine ⟨fun j s => allB l = true → Cut l j s, ?_, ?_, ?_⟩
                · intro _
                  refine .inr ⟨(itsB l).drop r, ?_, rfl, List.take_append_drop _ _⟩
                  intro e
                  have := congrArg List.length e
                  rw [List.length_drop] at this
                  have := Hn3.out
                  simp at *
                  omega
                · intro j s hj hs ha
                  exact (hs ha).step hj (HT.out _ (List.getElem_mem hj)) (K0.out _ (List.getElem_mem hj)) (allB_at ha hj)
                · intro s hs ha
                  exact (hs ha).fin
              have hcs : Bs wr (.slice a3 r c3) ((itsB l).take r) := by
                have hcut := Bs.cut hb9 0 r (by omega) (by rw [← Hn3.out]; omega)
                rw [if_neg (by omega)] at hcut
                simpa [Addr.add] using hcut
              go_wp2_with fail
              refine (NewReader_any _ _ _ hcs (by rw [List.length_take]; omega)).mono ?_
              rintro e w5 ⟨g, rfl, hg, hrd0, hb5⟩
              have hb25 := hb4.trans (hb5.mono hb4.size)
              have hg2 : w2.heap.size ≤ g := Nat.le_trans hb4.size hg
              clear hb4 hb5 hg
              go_wp2_with fail
              go_loopw [15] (fun i wr => ∃ (j : Nat) (s : RS), j ≤ l.length ∧ i = .int .i64 j ∧ RD wr g s ∧ Hid (Q j s) ∧ s.1.length ≤ 14000001 ∧ Below w2.heap.size w2 wr) (fun i _ => l.length - (intOf i).toNat)
              case atStart => exact ⟨0, _, Nat.zero_le _, rfl, hrd0, HQ.out.1, by rw [List.length_take]; omega, hb25⟩
              case round =>
                obtain ⟨j, s, hj, rfl, hrd, HS, hsl, hb⟩ := hrel
                have hbw := hbb2.trans (hb.mono hsz2)
                clear hrd0 hb25
                by_cases hlt : j < l.length
                · obtain ⟨b, off, rfl, _, hc⟩ := h.at2 hbw (by omega)
                  obtain ⟨vl, vt, ⟨hc0, hc1, hc2, hc3⟩, hil0, hbt0⟩ := hc j hlt
                  clear hc
                  have HN2 := Lib.hid (HQ.out.2.1 j s hlt HS.out)
                  have hls := gotE_len l[j] s
                  obtain ⟨x, hx⟩ : ∃ x, x = l[j] := ⟨_, rfl⟩
                  rw [← hx] at hil0 hbt0 hc0 hc2 HN2 hls
                  clear hx
                  have hgot := got_any wr g s x vl vt hrd (hil0.mono hbw) (hbt0.mono hbw) (fun hn i hi => by have := hil0.inlt hn hi; omega) (fun hn i hi => by have := hbt0.inlt hn hi; omega) (by omega)
                  obtain ⟨y, hy⟩ : ∃ y, y = (gotE x s).1 := ⟨_, rfl⟩
                  obtain ⟨s2, hs2⟩ : ∃ s2, s2 = (gotE x s).2 := ⟨_, rfl⟩
                  rw [← hs2] at hgot HN2 hls
                  rw [← hy] at hgot
                  clear hy hs2
                  have hlt2 := hrd.lt
                  clear hrd
                  go_wp2_with fail
                  refine hgot.mono ?_
                  rintro e w6 ⟨rfl, h6, hk6⟩
                  clear hgot
                  go_wp2_with fail
                  exact ⟨⟨j + 1, s2, by omega, by push_cast; rfl, h6, HN2, by omega, hb.trans (hk6.lowG hg2 hlt2)⟩, by simp [intOf]; omega⟩
                · obtain rfl : j = l.length := by omega
                  have hD := Done_any wr g s hrd
                  have hall := all_any wr _ l (h.mono hbw)
                  have hfin := HQ.out.2.2 s HS.out
                  obtain ⟨d, hd⟩ : ∃ d, d = rD s := ⟨_, rfl⟩
                  rw [← hd] at hD hfin
                  clear hd
                  by_cases hd0 : d = 0
                  · have hA : allB l = false := by
                      cases hab : allB l with
                      | false => rfl
                      | true => exact absurd hd0 (hfin hab)
                    rw [hA] at hall
                    subst hd0
                    clear hfin hA
                    go_wp2_with fail
                    refine hD.mono ?_
                    rintro e w6 ⟨rfl, rfl⟩
                    clear hD
                    go_wp2_with (first | (go_at_call 31; refine hall.mono ?_; rintro e w7 ⟨rfl, rfl⟩) | fail)
                    exact ⟨⟨1, by omega, rfl, hb⟩, by simp [intOf]⟩
                  · have hdb : ((d : Int) == 0) = false := by simp [hd0]
                    clear hfin hall
                    go_wp2_with fail
                    refine hD.mono ?_
                    rintro e w6 ⟨rfl, rfl⟩
                    clear hD
                    go_wp2_with fail
                    exact ⟨⟨1, by omega, rfl, hb⟩, by simp [intOf]⟩
            · obtain ⟨Q, HQ⟩ : ∃ Q : Nat → RS → Prop, Hid (Q 0 (itsB l ++ [more], 0) ∧ (∀ j s (hj : j < l.length), Q j s → Q (j + 1) (gotE l[j] s).2) ∧ (∀ s, Q l.length s → allB l = true → rD s ≠ 0)) := by
                refine ⟨fun j s => s = (itsB (l.drop j) ++ [more], 0), ?_, ?_, ?_⟩
                · show _ = _
                  rw [List.drop_zero]
                · rintro j s hj rfl
                  rw [itsB_drop l j hj, List.append_assoc, gotE_it _ _ (K0.out _ (List.getElem_mem hj)) (HT.out _ (List.getElem_mem hj))]
                · rintro s rfl _
                  rw [List.drop_length]
                  show rD ([more], 0) ≠ 0
                  rw [rD_more]
                  decide
              go_wp2_with fail
              refine (Twin_any _ _ _ hb9 (by have := Hn3.out; omega)).mono ?_
              rintro e w3 ⟨r3, rfl, hr3, hb3⟩
              obtain ⟨a4, n4, c4, rfl, Hn4, hr3⟩ := OwnB.named hr3
              have hbA : Below wr.heap.size wr (w3.alloc (.cells #[.int .u8 (more.toNat : Int)] 5)) := hb3.alloc hb3.size _
              have hszA := hbA.size
              go_wp2_with (first | (at_builtin; refine wpList_append_bytes (l := itsB l) (m := [more]) rfl (.tmp 70) (.tmp 72) 25 rfl elem_byte rfl rfl (hr3.alloc _) (Sl.one _ _ _) (by have := Hn3.out; simp; omega) hszA ?_; intro a5 n5 c5 w4 Hn5 ho5 hbw4 _) | fail)
              have hb4' : Below w2.heap.size w2 w4 := hb4.trans ((hbA.trans hbw4).mono hb4.size)
              have hcs := ho5.bs
              clear ho5 hr3 hbw4 hbA hb3 hb9 hb4
              have hb4 := hb4'
              clear hb4'
              go_wp2_with fail
              refine (NewReader_any _ _ _ hcs (by have := Hn3.out; simp only [List.length_append, List.length_singleton]; omega)).mono ?_
              rintro e w5 ⟨g, rfl, hg, hrd0, hb5⟩
              have hb25 := hb4.trans (hb5.mono hb4.size)
              have hg2 : w2.heap.size ≤ g := Nat.le_trans hb4.size hg
              clear hb4 hb5 hg
              go_wp2_with fail
              go_loopw [15] (fun i wr => ∃ (j : Nat) (s : RS), j ≤ l.length ∧ i = .int .i64 j ∧ RD wr g s ∧ Hid (Q j s) ∧ s.1.length ≤ 14000001 ∧ Below w2.heap.size w2 wr) (fun i _ => l.length - (intOf i).toNat)
              case atStart => exact ⟨0, _, Nat.zero_le _, rfl, hrd0, HQ.out.1, by have := Hn3.out; simp only [List.length_append, List.length_singleton]; omega, hb25⟩
              case round =>
                obtain ⟨j, s, hj, rfl, hrd, HS, hsl, hb⟩ := hrel
                have hbw := hbb2.trans (hb.mono hsz2)
                clear hrd0 hb25
                by_cases hlt : j < l.length
                · obtain ⟨b, off, rfl, _, hc⟩ := h.at2 hbw (by omega)
                  obtain ⟨vl, vt, ⟨hc0, hc1, hc2, hc3⟩, hil0, hbt0⟩ := hc j hlt
                  clear hc
                  have HN2 := Lib.hid (HQ.out.2.1 j s hlt HS.out)
                  have hls := gotE_len l[j] s
                  obtain ⟨x, hx⟩ : ∃ x, x = l[j] := ⟨_, rfl⟩
                  rw [← hx] at hil0 hbt0 hc0 hc2 HN2 hls
                  clear hx
                  have hgot := got_any wr g s x vl vt hrd (hil0.mono hbw) (hbt0.mono hbw) (fun hn i hi => by have := hil0.inlt hn hi; omega) (fun hn i hi => by have := hbt0.inlt hn hi; omega) (by omega)
                  obtain ⟨y, hy⟩ : ∃ y, y = (gotE x s).1 := ⟨_, rfl⟩
                  obtain ⟨s2, hs2⟩ : ∃ s2, s2 = (gotE x s).2 := ⟨_, rfl⟩
                  rw [← hs2] at hgot HN2 hls
                  rw [← hy] at hgot
                  clear hy hs2
                  have hlt2 := hrd.lt
                  clear hrd
                  go_wp2_with fail
                  refine hgot.mono ?_
                  rintro e w6 ⟨rfl, h6, hk6⟩
                  clear hgot
                  go_wp2_with fail
                  exact ⟨⟨j + 1, s2, by omega, by push_cast; rfl, h6, HN2, by omega, hb.trans (hk6.lowG hg2 hlt2)⟩, by simp [intOf]; omega⟩
                · obtain rfl : j = l.length := by omega
                  have hD := Done_any wr g s hrd
                  have hall := all_any wr _ l (h.mono hbw)
                  have hfin := HQ.out.2.2 s HS.out
                  obtain ⟨d, hd⟩ : ∃ d, d = rD s := ⟨_, rfl⟩
                  rw [← hd] at hD hfin
                  clear hd
                  by_cases hd0 : d = 0
                  · have hA : allB l = false := by
                      cases hab : allB l with
                      | false => rfl
                      | true => exact absurd hd0 (hfin hab)
                    rw [hA] at hall
                    subst hd0
                    clear hfin hA
                    go_wp2_with fail
                    refine hD.mono ?_
                    rintro e w6 ⟨rfl, rfl⟩
                    clear hD
                    go_wp2_with (first | (go_at_call 31; refine hall.mono ?_; rintro e w7 ⟨rfl, rfl⟩) | fail)
                    exact ⟨⟨2, by omega, rfl, hb⟩, by simp [intOf]⟩
                  · have hdb : ((d : Int) == 0) = false := by simp [hd0]
                    clear hfin hall
                    go_wp2_with fail
                    refine hD.mono ?_
                    rintro e w6 ⟨rfl, rfl⟩
                    clear hD
                    go_wp2_with fail
                    exact ⟨⟨2, by omega, rfl, hb⟩, by simp [intOf]⟩
            · have hbw := hbb2.trans (hb4.mono hsz2)
              go_wp2_with fail
              refine (wakes_any _).mono ?_
              rintro e w3 ⟨rfl, hb3⟩
              go_wp2_with fail
              go_ret
              exact ⟨rfl, hbw.next hb3⟩

end Cam
