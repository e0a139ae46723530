import Derived.Test.YtfkkojdaceedpaaPkA
import Derived.Test.YtfkkojdaceedpaaPkK
/- cambistlaw04: PackWrites. -/
namespace Cam
open Go Go.RowKit Go.Proofs

theorem PW.low {w w' : World} {g : Nat} {v : Value} {l : List UInt8} {lg : Bool} (h : PW w g v l lg) (hk : Kept (fun k => k = g ∨ v.ownBlock = some k) w w') : Below g w w' := by
  refine hk.below ?_ (Nat.le_of_lt h.lt)
  rintro k hk (e | e)
  · omega
  · have := h.row k e
    omega
theorem PW.below {w w' : World} {g : Nat} {v : Value} {l : List UInt8} {lg : Bool} (h : PW w g v l lg) (hb : Below w.heap.size w w') : PW w' g v l lg :=
  ⟨(hb.block g h.lt).trans h.1, h.2.below hb⟩
theorem PW.belowB {w w' : World} {B g : Nat} {v : Value} {l : List UInt8} {lg : Bool} (h : PW w g v l lg) (hb : Below B w w') (hB : w.heap.size ≤ B) : PW w' g v l lg := h.below (hb.mono hB)

theorem Bytes_same (w : World) (va vb : Value) (l : List UInt8) (ha : Bs w va l) (hb : Bs w vb l) : Calls Try.prog 15 #[va, vb] w fun e w' => e = .returned (.bool true) ∧ Below w.heap.size w w' :=
  (Bytes_any w va vb l l ha hb).mono fun _ _ ⟨h1, h2⟩ => ⟨by rw [h1]; simp, h2⟩

theorem not_heavy {l : List Item} (h : heavyB l = false) : l.length ≤ 200 ∧ ∀ x ∈ l, x.t.length ≤ 131072 ∧ x.l.length ≤ 200 := by
  simp only [heavyB, heavyI, Bool.or_eq_false_iff, decide_eq_false_iff_not, List.any_eq_false, decide_eq_true_eq] at h
  exact ⟨by omega, fun x hx => by have := h.2 x hx; omega⟩

set_option maxRecDepth 100000 in
set_option maxHeartbeats 1600000 in
theorem PackWrites_walk (w : World) (v : Value) (l : List Item) (h : Its w v l) (k0 : ∀ x ∈ l, ∀ n ∈ x.l, -9223372036854775808 ≤ n ∧ n ≤ 9223372036854775807) :
    Calls Try.prog 3 #[v] w fun e w' => e = .returned (.bool true) ∧ Below w.heap.size w w' := by
  obtain ⟨a, cap, rfl, hcap, hm⟩ := h.shape
  obtain ⟨hv, hhv⟩ : ∃ hv, hv = heavyB l := ⟨_, rfl⟩
  have he := heavy_any w _ l h
  rw [← hhv] at he
  have HH := Lib.hid hhv
  have K0 := Lib.hid k0
  clear hhv k0
  cases hv with
  | true =>
    go_enter Try.func3, Try.ntmps3
    go_wp2_with fail
    refine he.mono ?_
    rintro e w1 ⟨rfl, rfl⟩
    go_wp2_with fail
    go_ret
    exact ⟨rfl, Below.refl _ _⟩
  | false =>
    have HN := Lib.hid (not_heavy HH.out.symm)
    have hn : l.length ≤ 200 := HN.out.1
    have hp0 := PW.new (w := w) rfl
    go_enter Try.func3, Try.ntmps3
    go_wp2_with fail
    refine he.mono ?_
    rintro e w1 ⟨rfl, rfl⟩
    go_wp2_with fail
    go_loopw [4] (fun i wr => ∃ (k : Nat) (v' : Value), k ≤ l.length ∧ i = .int .i64 k ∧ PW wr w.heap.size v' (itsB (l.take k)) (itsLong (l.take k)) ∧ Below w.heap.size w wr) (fun i _ => l.length - (intOf i).toNat)
    case atStart => exact ⟨0, _, Nat.zero_le _, rfl, hp0, (Below.refl _ _).alloc (Nat.le_refl _) _⟩
    case round =>
      obtain ⟨k, v', hk, rfl, hpw, hb⟩ := hrel
      clear hp0 he
      by_cases hlt : k < l.length
      · obtain ⟨b, off, rfl, _, hc⟩ := (h.mono hb).at (by omega)
        obtain ⟨vl, vt, ⟨hc0, hc1, hc2, hc3⟩, _, _⟩ := hc k hlt
        obtain ⟨_, _, he1, _, hd⟩ := h.at (by omega)
        cases he1
        obtain ⟨vl', vt', ⟨_, hd1, _, hd3⟩, hil0, hbt0⟩ := hd k hlt
        have hbl := hb.block b (by assumption)
        have e1 : vl' = vl := by
          unfold World.cell? at hd1 hc1
          simp only at hd1 hc1
          rw [hbl, hd1] at hc1
          exact Option.some.inj hc1
        have e3 : vt' = vt := by
          unfold World.cell? at hd3 hc3
          simp only at hd3 hc3
          rw [hbl, hd3] at hc3
          exact Option.some.inj hc3
        subst e1 e3
        clear hc hd hbl hd1 hd3
        obtain ⟨x, hx⟩ : ∃ x, x = l[k] := ⟨_, rfl⟩
        have hxx := HN.out.2 _ (List.getElem_mem hlt)
        have hxr := K0.out _ (List.getElem_mem hlt)
        rw [← hx] at hil0 hbt0 hc0 hc2 hxx hxr
        have hll := itsB_length (l.take k) (fun y hy => ⟨(HN.out.2 y (List.mem_of_mem_take hy)).2, K0.out y (List.mem_of_mem_take hy)⟩)
        have hl2 : (l.take k).length ≤ l.length := List.length_take_le' _ _
        have HB : Hid (itsB (l.take k) ++ itB x = itsB (l.take (k + 1))) := by show _ = _; rw [take_snoc l k hlt, itsB_snoc, ← hx]
        have HO : Hid ((itsLong (l.take k) || itLong x) = itsLong (l.take (k + 1))) := by show _ = _; rw [take_snoc l k hlt, itsLong_snoc, ← hx]
        clear hx
        have wr_ := write_any wr w.heap.size v' (itsB (l.take k)) (itsLong (l.take k)) x vl' vt' hpw (hil0.mono hb) (hbt0.mono hb)
          (fun w' hk' => hil0.mono (hb.trans (hpw.low hk'))) (fun w' hk' => hbt0.mono (hb.trans (hpw.low hk'))) hxr hxx.2 (by omega)
        rw [HB.out, HO.out] at wr_
        go_wp2_with fail
        refine wr_.mono ?_
        rintro e w1 ⟨rfl, v1, hp1, hk1, _⟩
        have hb1 := hb.trans (hpw.low hk1)
        clear wr_
        go_wp2_with fail
        exact ⟨⟨k + 1, _, by omega, by push_cast; rfl, hp1, hb1⟩, by simp [intOf]; omega⟩
      · rw [List.take_of_length_le (by omega)] at hpw
        have HL : Hid ((itsB l).length ≤ 70000 * l.length) := itsB_length l (fun y hy => ⟨(HN.out.2 y hy).2, K0.out y hy⟩)
        obtain ⟨lg, hlg⟩ : ∃ lg, lg = itsLong l := ⟨_, rfl⟩
        have hwant := want_any wr _ l (h.mono hb) hn (fun x hx => ⟨(HN.out.2 x hx).2, K0.out x hx⟩)
        unfold WantPost at hwant
        rw [← hlg] at hwant hpw
        have HLG := Lib.hid hlg
        clear hlg
        go_wp2_with fail
        refine hwant.mono ?_
        rintro e w1 ⟨r, rfl, hr, hb1⟩
        obtain ⟨a2, n2, c2, rfl, Hn2, _⟩ := OwnB.named hr
        have hp1 := hpw.below hb1
        have hbb := hb.trans (hb1.mono hb.size)
        clear hwant
        cases lg with
        | true =>
          go_wp2_with fail
          refine (WBytes_no _ _ _ _ hp1).mono ?_
          rintro e w2 ⟨rfl, rfl⟩
          go_wp2_with (first | (go_at_call 14; refine (wakes_any _).mono ?_; rintro e w3 ⟨rfl, hb3⟩) | fail)
          go_ret
          exact ⟨rfl, hbb.next hb3⟩
        | false =>
          go_wp2_with fail
          refine (WBytes_ok _ _ _ _ hp1 (by have := HL.out; omega)).mono ?_
          rintro e w2 ⟨⟨r2, rfl, hr2⟩, hb2⟩
          obtain ⟨a3, n3, c3, rfl, Hn3, _⟩ := OwnB.named hr2
          have hrB := hr.below hb2
          have hp2 := hp1.below hb2
          have hbb2 := hbb.next hb2
          go_wp2_with (first | (go_at_call 15; refine (Bytes_same _ _ _ _ hr2.bs hrB.bs).mono ?_; rintro e w3 ⟨rfl, hb3⟩) | fail)
          have hr3 := hr2.below hb3
          have hrB3 := hrB.below hb3
          have hp3 := hp2.below hb3
          have hbb3 := hbb2.next hb3
          refine (SpoilBytes_any _ _ _ _ hr3).mono ?_
          rintro e w4 ⟨rfl, hb4⟩
          have hsz4 : w1.heap.size ≤ w3.heap.size := Nat.le_trans hb2.size hb3.size
          have hb14 : Below w1.heap.size w1 w4 := (hb2.next hb3).trans hb4
          have hp4 := hp1.below hb14
          have hrB4 := hr.below hb14
          have hbb4 := hbb.next hb14
          go_wp2_with fail
          refine (WBytes_ok _ _ _ _ hp4 (by have := HL.out; omega)).mono ?_
          rintro e w5 ⟨⟨r5, rfl, hr5⟩, hb5⟩
          obtain ⟨a5, n5, c5, rfl, Hn5, _⟩ := OwnB.named hr5
          have hrB5 := hrB4.below hb5
          have hbb5 := hbb4.next hb5
          go_wp2_with (first | (go_at_call 15; refine (Bytes_same _ _ _ _ hr5.bs hrB5.bs).mono ?_; rintro e w6 ⟨rfl, hb6⟩) | (go_at_call 14; refine (wakes_any _).mono ?_; rintro e w7 ⟨rfl, hb7⟩) | fail)
          go_ret
          exact ⟨rfl, (hbb5.next hb6).next hb7⟩

end Cam
