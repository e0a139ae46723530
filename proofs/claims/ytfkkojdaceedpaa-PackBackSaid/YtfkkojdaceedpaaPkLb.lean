import Derived.Test.YtfkkojdaceedpaaPkGP
/- cambistlaw04: PackBack. -/
namespace Cam
open Go Go.RowKit Go.Proofs

set_option maxRecDepth 100000 in
set_option maxHeartbeats 1600000 in
theorem PackBack_walk (w : World) (v : Value) (l : List Item) (h : Its w v l) (k0 : ∀ x ∈ l, ∀ n ∈ x.l, -9223372036854775808 ≤ n ∧ n ≤ 9223372036854775807) :
    Calls Try.prog 7 #[v] w fun e w' => e = .returned (.bool true) ∧ Below w.heap.size w w' := by
  obtain ⟨a, cap, rfl, hcap, hm⟩ := h.shape
  obtain ⟨hv, hhv⟩ : ∃ hv, hv = heavyB l := ⟨_, rfl⟩
  have he := heavy_any w _ l h
  rw [← hhv] at he
  have HH := Lib.hid hhv
  have K0 := Lib.hid k0
  clear hhv k0
  cases hv with
  | true =>
    go_enter Try.func7, Try.ntmps7
    go_wp2_with fail
    refine he.mono ?_
    rintro e w1 ⟨rfl, rfl⟩
    go_wp2_with fail
    go_ret
    exact ⟨rfl, Below.refl _ _⟩
  | false =>
    have HN := Lib.hid (not_heavy HH.out.symm)
    have hn : l.length ≤ 200 := HN.out.1
    have hp0 := PW.new (w := w) rfl
    go_enter Try.func7, Try.ntmps7
    go_wp2_with fail
    refine he.mono ?_
    rintro e w1 ⟨rfl, rfl⟩
    go_wp2_with fail
    go_loopw [4] (fun i wr => ∃ (k : Nat) (v' : Value), k ≤ l.length ∧ i = .int .i64 k ∧ PW wr w.heap.size v' (itsB (l.take k)) false ∧ Hid (∀ y ∈ l.take k, y.t.length ≤ 65536) ∧ Below w.heap.size w wr) (fun i _ => l.length - (intOf i).toNat)
    case atStart => exact ⟨0, _, Nat.zero_le _, rfl, hp0, (by intro y hy; simp at hy), (Below.refl _ _).alloc (Nat.le_refl _) _⟩
    case round =>
      obtain ⟨k, v', hk, rfl, hpw, HT, hb⟩ := hrel
      clear hp0 he
      by_cases hlt : k < l.length
      · obtain ⟨b, off, rfl, _, hc⟩ := h.at2 hb (by omega)
        obtain ⟨vl, vt, ⟨hc0, hc1, hc2, hc3⟩, hil0, hbt0⟩ := hc k hlt
        clear hc
        obtain ⟨x, hx⟩ : ∃ x, x = l[k] := ⟨_, rfl⟩
        have hxx := HN.out.2 _ (List.getElem_mem hlt)
        have hxr := K0.out _ (List.getElem_mem hlt)
        rw [← hx] at hil0 hbt0 hc0 hc2 hxx hxr
        obtain ⟨at_, ct, rfl, _, _⟩ := hbt0.shape
        by_cases hlong : 65536 < x.t.length
        · have hli : (65536 : Int) < (x.t.length : Int) := by omega
          clear hpw HT hx
          go_wp2_with fail
          go_ret
          exact ⟨rfl, hb⟩
        · have hli : decide ((65536 : Int) < (x.t.length : Int)) = false := by simp; omega
          have hll := itsB_length (l.take k) (fun y hy => ⟨(HN.out.2 y (List.mem_of_mem_take hy)).2, K0.out y (List.mem_of_mem_take hy)⟩)
          have hl2 : (l.take k).length ≤ l.length := List.length_take_le' _ _
          have HB : Hid (itsB (l.take k) ++ itB x = itsB (l.take (k + 1))) := by show _ = _; rw [take_snoc l k hlt, itsB_snoc, ← hx]
          have HT2 : Hid (∀ y ∈ l.take (k + 1), y.t.length ≤ 65536) := by
            show ∀ y ∈ _, _
            intro y hy
            rw [take_snoc l k hlt, ← hx] at hy
            rcases List.mem_append.1 hy with hy | hy
            · exact HT.out y hy
            · simp at hy
              subst hy
              omega
          have HO : (false || itLong x) = false := by simp [itLong]; omega
          clear hx
          have wr_ := write_any wr w.heap.size v' (itsB (l.take k)) false x vl _ hpw (hil0.mono hb) (hbt0.mono hb)
            (fun w' hk' => hil0.mono (hb.trans (hpw.low hk'))) (fun w' hk' => hbt0.mono (hb.trans (hpw.low hk'))) hxr hxx.2 (by omega)
          rw [HB.out, HO] at wr_
          clear HO
          go_wp2_with fail
          refine wr_.mono ?_
          rintro e w1 ⟨rfl, v1, hp1, hk1, _⟩
          have hb1 := hb.trans (hpw.low hk1)
          clear wr_
          go_wp2_with fail
          exact ⟨⟨k + 1, _, by omega, by push_cast; rfl, hp1, HT2, hb1⟩, by simp [intOf]; omega⟩
      · rw [List.take_of_length_le (by omega)] at hpw HT
        have HL : Hid ((itsB l).length ≤ 70000 * l.length) := itsB_length l (fun y hy => ⟨(HN.out.2 y hy).2, K0.out y hy⟩)
        go_wp2_with fail
        refine (WBytes_ok _ _ _ _ hpw (by have := HL.out; omega)).mono ?_
        rintro e w2 ⟨⟨r2, rfl, hr2⟩, hb2⟩
        obtain ⟨a3, n3, c3, rfl, Hn3, hr2⟩ := OwnB.named hr2
        have hbb2 := hb.next hb2
        have hsz2 := hbb2.size
        clear hpw
        go_wp2_with fail
        refine (NewReader_any w2 _ (itsB l) hr2.bs (by have := HL.out; omega)).mono ?_
        rintro e w3 ⟨g, rfl, hg, hrd0, hb3⟩
        have hbb3 := hbb2.next hb3
        clear hr2 hb2 hb3 hbb2
        go_wp2_with fail
        go_loopw [8] (fun i wr => ∃ k : Nat, k ≤ l.length ∧ i = .int .i64 k ∧ RD wr g (itsB (l.drop k), 0) ∧ Below w.heap.size w wr) (fun i _ => l.length - (intOf i).toNat)
        case atStart => exact ⟨0, Nat.zero_le _, rfl, hrd0, hbb3⟩
        case round =>
          obtain ⟨k, hk, rfl, hrd, hb⟩ := hrel
          clear hrd0 hbb3
          by_cases hlt : k < l.length
          · obtain ⟨b, off, rfl, _, hc⟩ := h.at2 hb (by omega)
            obtain ⟨vl, vt, ⟨hc0, hc1, hc2, hc3⟩, hil0, hbt0⟩ := hc k hlt
            clear hc
            have hdr := itsB_drop l k hlt
            have hxx := HT.out _ (List.getElem_mem hlt)
            have hxr := K0.out _ (List.getElem_mem hlt)
            have hL2 : (itsB (l.drop k)).length ≤ 70000 * 200 := by
              have h1 := itsB_length (l.drop k) (fun y hy => ⟨(HN.out.2 y (List.mem_of_mem_drop hy)).2, K0.out y (List.mem_of_mem_drop hy)⟩)
              have h2 : (l.drop k).length ≤ l.length := by simp
              omega
            obtain ⟨x, hx⟩ : ∃ x, x = l[k] := ⟨_, rfl⟩
            rw [← hx] at hil0 hbt0 hc0 hc2 hxx hxr hdr
            clear hx
            have hgot := got_any wr g (itsB (l.drop k), 0) x vl vt hrd (hil0.mono hb) (hbt0.mono hb) (fun hn j hj => by have := hil0.inlt hn hj; omega) (fun hn j hj => by have := hbt0.inlt hn hj; omega) (by simp only; omega)
            rw [hdr, gotE_it x _ hxr hxx] at hgot
            have hlt2 := hrd.lt
            clear hdr hrd hxr hxx hL2
            go_wp2_with fail
            refine hgot.mono ?_
            rintro e w4 ⟨rfl, h4, hk4⟩
            clear hgot
            go_wp2_with fail
            exact ⟨⟨k + 1, by omega, by push_cast; rfl, h4, hb.trans (hk4.lowG (by omega) hlt2)⟩, by simp [intOf]; omega⟩
          · rw [List.drop_of_length_le (by omega)] at hrd
            have hD := Done_any wr g _ hrd
            rw [show rD (itsB [], 0) = 0 from rfl] at hD
            go_wp2_with fail
            refine hD.mono ?_
            rintro e w4 ⟨rfl, rfl⟩
            clear hD
            go_wp2_with (first | (go_at_call 14; refine (wakes_any _).mono ?_; rintro e w5 ⟨rfl, hb5⟩) | fail)
            go_ret
            exact ⟨rfl, hb.next hb5⟩

end Cam
