import Derived.Test.YtfkkojdaceedpaaPkU
import Derived.Test.YtfkkojdaceedpaaPkL
import Derived.Test.YtfkkojdaceedpaaPkLo
import Derived.Deep.RegionHeld3
/- cambistlaw04: got. -/
namespace Cam
open Go Go.RowKit Go.Proofs

def gotI : List Int → RS → Bool × RS
  | [], s => (true, s)
  | n :: l, s => if (rI s).1 = n then gotI l (rI s).2 else (false, (rI s).2)
def gotE (x : Item) (s : RS) : Bool × RS := if ck x.kind = 0 then gotI x.l s else if ck x.kind = 1 then (decide ((rM s).1 = x.is), (rM s).2) else (decide ((rT s).1 = x.t), (rT s).2)

theorem Kept.cell {S : Nat → Prop} {w w' : World} (hk : Kept S w w') {p : Addr} {x : Value} (h : w.cell? p = some x) (hp : ¬ S p.block) : w'.cell? p = some x := by
  have hlt := World.block_lt_of_cell? w _ h
  unfold World.cell? at *
  rw [hk.block _ hlt hp]
  exact h
theorem Kept.drew {S : Nat → Prop} {w w' : World} (h : Kept S w w') : Kept S w w'.drew := ⟨h.os, h.tape, h.output, h.size, h.block⟩
theorem RD.drew {w : World} {g : Nat} {s : RS} (h : RD w g s) : RD w.drew g s := h.below (Below.refl _ _).drew
theorem Sl.kept1 {S : Nat → Prop} {w w' : World} {v : Value} {size n : Nat} {cs : List Value} (h : Sl w v size n cs) (hk : Kept S w w') (ha : cs ≠ [] → ∀ k, inBlock v k → ¬ S k) : Sl w' v size n cs := by
  obtain ⟨h0, a, c, rfl, h1, h2, h3, h4⟩ := h
  refine ⟨h0, a, c, rfl, h1, h2, h3, fun ad had i u hu => ?_⟩
  have hc := h4 ad had i u hu
  subst had
  have hb : (ad.add i).block = ad.block := by unfold Addr.add; split <;> rfl
  exact hk.cell hc (by rw [hb]; exact ha (fun e => by subst e; simp at hu) _ ⟨ad, n, c, rfl, rfl⟩)
theorem Sl.inlt {w : World} {v : Value} {size n : Nat} {cs : List Value} (h : Sl w v size n cs) (hn : cs ≠ []) {k : Nat} (hk : inBlock v k) : k < w.heap.size := by
  obtain ⟨h0, a, c, rfl, h1, h2, h3, h4⟩ := h
  obtain ⟨ad, n', c', he, rfl⟩ := hk
  injection he with h5 _ _
  have hp : 0 < cs.length := List.length_pos_iff.2 hn
  have hlt := World.block_lt_of_cell? w _ (h4 ad h5 0 _ (List.getElem?_eq_getElem hp))
  have hb : (ad.add 0).block = ad.block := by unfold Addr.add; split <;> rfl
  rw [hb] at hlt
  exact hlt
theorem Bs.kept1 {S : Nat → Prop} {w w' : World} {v : Value} {l : List UInt8} (h : Bs w v l) (hk : Kept S w w') (ha : l ≠ [] → ∀ k, inBlock v k → ¬ S k) : Bs w' v l := Sl.kept1 h hk (fun hn => ha (fun e => hn (by rw [e]; rfl)))
theorem Is.kept1 {S : Nat → Prop} {w w' : World} {v : Value} {l : List Int} (h : Is w v l) (hk : Kept S w w') (ha : l ≠ [] → ∀ k, inBlock v k → ¬ S k) : Is w' v l := Sl.kept1 h hk (fun hn => ha (fun e => hn (by rw [e]; rfl)))
theorem Bs.inlt {w : World} {v : Value} {l : List UInt8} (h : Bs w v l) (hn : l ≠ []) {k : Nat} (hk : inBlock v k) : k < w.heap.size := Sl.inlt h (by cases l; exact absurd rfl hn; simp) hk
theorem Is.inlt {w : World} {v : Value} {l : List Int} (h : Is w v l) (hn : l ≠ []) {k : Nat} (hk : inBlock v k) : k < w.heap.size := Sl.inlt h (by cases l; exact absurd rfl hn; simp) hk
theorem keepG {W w1 : World} {g : Nat} {p q : Addr} {x y : Value} (hk : Kept (fun k => k = g) W w1) (h : W.cell? p = some x ∧ W.cell? q = some y) (hp : p.block ≠ g) (hq : q.block ≠ g) : w1.cell? p = some x ∧ w1.cell? q = some y :=
  ⟨hk.cell h.1 hp, hk.cell h.2 hq⟩
theorem keepG1 {W w1 : World} {g : Nat} {p : Addr} {x : Value} (hk : Kept (fun k => k = g) W w1) (h : W.cell? p = some x) (hp : p.block ≠ g) : w1.cell? p = some x := hk.cell h hp
theorem keepB1 {W w1 : World} {p : Addr} {x : Value} (hb : Below W.heap.size W w1) (h : W.cell? p = some x) : w1.cell? p = some x := (hb.cell (World.block_lt_of_cell? W _ h)).trans h

set_option maxRecDepth 100000 in
set_option maxHeartbeats 1600000 in
theorem got_any (w : World) (g : Nat) (s : RS) (x : Item) (vl vt : Value) (h : RD w g s) (hl : Is w vl x.l) (ht : Bs w vt x.t) (hnl : x.l ≠ [] → ∀ k, inBlock vl k → k ≠ g) (hnt : x.t ≠ [] → ∀ k, inBlock vt k → k ≠ g) (hlen : s.1.length ≤ 70368744177664) :
    Calls Try.prog 29 #[.pointer (some ⟨g, 0, none⟩), .agg #[.int .i64 x.kind, vl, .bool x.is, vt]] w fun e w' => e = .returned (.bool (gotE x s).1) ∧ RD w' g (gotE x s).2 ∧ Kept (fun k => k = g) w w' := by
  have hlt := h.lt
  obtain ⟨al, cl, rfl, hcl, hml⟩ := hl.shape
  obtain ⟨at_, ct, rfl, hct, hmt⟩ := ht.shape
  have hBg : w.heap.size ≠ g := by omega
  obtain ⟨W0, hW0⟩ : ∃ W0, w.alloc (.cells #[.int .i64 x.kind, .slice al x.l.length cl, .bool x.is, .slice at_ x.t.length ct] 31) = W0 := ⟨_, rfl⟩
  have hA : RD W0 g s := by rw [← hW0]; exact h.alloc _
  have hkA : Kept (fun k => k = g) w W0 := by rw [← hW0]; exact (Kept.refl _ w).alloc _
  have hlA : Is W0 (.slice al x.l.length cl) x.l := by rw [← hW0]; exact hl.alloc _
  have htA : Bs W0 (.slice at_ x.t.length ct) x.t := by rw [← hW0]; exact ht.alloc _
  have hc1 : W0.cell? ⟨w.heap.size, 1, none⟩ = some (.slice al x.l.length cl) := by rw [← hW0, World.cell?_alloc_new]; rfl
  have hc2 : W0.cell? ⟨w.heap.size, 2, none⟩ = some (.bool x.is) := by rw [← hW0, World.cell?_alloc_new]; rfl
  have hc3 : W0.cell? ⟨w.heap.size, 3, none⟩ = some (.slice at_ x.t.length ct) := by rw [← hW0, World.cell?_alloc_new]; rfl
  have HW0 := Lib.hid hW0
  clear hl ht h hW0
  rcases ck_cases x.kind with hkk | hkk | hkk
  · have HE : Hid (gotE x s = gotI x.l s) := by show _ = _; unfold gotE; rw [if_pos hkk]
    have hk' : (IntKind.u64.wrap x.kind).tmod 3 = 0 := hkk
    clear hkk htA hnt hc2 hc3
    go_enter Try.func29, Try.ntmps29
    go_wp2_with fail
    rw [HW0.out]
    clear HW0
    go_loopw [5] (fun i wr => ∃ (k : Nat) (s1 : RS), k ≤ x.l.length ∧ i = .int .i64 k ∧ RD wr g s1 ∧ s1.1.length ≤ 70368744177664 ∧ Hid (gotI x.l s = gotI (x.l.drop k) s1) ∧ Kept (fun k => k = g) W0 wr) (fun i _ => x.l.length - (intOf i).toNat)
    case atStart => exact ⟨0, s, Nat.zero_le _, rfl, hA, hlen, rfl, Kept.refl _ _⟩
    case round =>
      obtain ⟨k, s1, hk, rfl, hrd, hsl, HG, hkW⟩ := hrel
      have hd1 := hkW.cell hc1 hBg
      have hlr : Is wr (.slice al x.l.length cl) x.l := hlA.kept1 hkW (fun hn k hi e => hnl hn k hi e)
      clear hA hlen hc1 hlA
      by_cases hlt : k < x.l.length
      · obtain ⟨b, off, rfl, _, hc⟩ := hlr.at (by omega)
        have hbg : b ≠ g := hnl (fun e => by rw [e] at hlt; simp at hlt) b ⟨_, _, _, rfl, rfl⟩
        have hck := hc k hlt
        clear hc hlr hnl
        obtain ⟨n, hn⟩ : ∃ n, n = x.l[k] := ⟨_, rfl⟩
        have hst : gotI (x.l.drop k) s1 = if (rI s1).1 = n then gotI (x.l.drop (k + 1)) (rI s1).2 else (false, (rI s1).2) := by
          rw [List.drop_eq_getElem_cons hlt, ← hn]
          rfl
        rw [← hn] at hck
        clear hn
        have hi := RInt_any wr.drew g s1 hrd.drew hsl
        have hsl2 := rI_len s1
        have hs0 := HG.out
        rw [hst] at hs0
        clear hst HG
        obtain ⟨y, hy⟩ : ∃ y, y = (rI s1).1 := ⟨_, rfl⟩
        obtain ⟨s2, hs2⟩ : ∃ s2, s2 = (rI s1).2 := ⟨_, rfl⟩
        rw [← hs2] at hi hs0 hsl2
        rw [← hy] at hi hs0
        clear hy hs2
        have hS : wr.drew.cell? ⟨w.heap.size, 1, none⟩ = some (.slice (some ⟨b, off, none⟩) x.l.length cl) ∧ wr.drew.cell? ⟨b, off + k, none⟩ = some (.int .i64 n) := ⟨hd1, hck⟩
        by_cases hyn : y = n
        · subst hyn
          rw [if_pos rfl] at hs0
          have HS := Lib.hid hs0
          clear hs0
          go_wp2_with fail
          go_region_held3 (fun w' => w'.cell? ⟨w.heap.size, 1, none⟩ = some (.slice (some ⟨b, off, none⟩) x.l.length cl) ∧ w'.cell? ⟨b, off + k, none⟩ = some (.int .i64 y)) (first | assumption | exact keepG (by assumption) (by assumption) hBg hbg)
            (first | (go_at_call 21; refine hi.mono ?_; rintro e w2 ⟨rfl, h2, hk2⟩))
          go_wp2_with fail
          exact ⟨⟨k + 1, s2, by omega, by push_cast; rfl, h2, by omega, HS, hkW.drew.then hk2⟩, by simp [intOf]; omega⟩
        · rw [if_neg hyn] at hs0
          have HS : Hid (gotE x s = (false, s2)) := by show _ = _; rw [HE.out, hs0]
          have hyb : ((y : Int) == n) = false := by simp [hyn]
          clear hs0
          go_wp2_with fail
          go_region_held3 (fun w' => w'.cell? ⟨w.heap.size, 1, none⟩ = some (.slice (some ⟨b, off, none⟩) x.l.length cl) ∧ w'.cell? ⟨b, off + k, none⟩ = some (.int .i64 n)) (first | assumption | exact keepG (by assumption) (by assumption) hBg hbg)
            (first | (go_at_call 21; refine hi.mono ?_; rintro e w2 ⟨rfl, h2, hk2⟩))
          go_wp2_with fail
          go_ret
          rw [HS.out]
          exact ⟨rfl, h2, hkA.then (hkW.drew.then hk2)⟩
      · have HS : Hid (gotE x s = (true, s1)) := by
          show _ = _
          rw [HE.out, HG.out, List.drop_of_length_le (by omega)]
          rfl
        go_wp2_with fail
        go_ret
        rw [HS.out]
        exact ⟨rfl, hrd, hkA.then hkW⟩
  · have hE : gotE x s = (decide ((rM s).1 = x.is), (rM s).2) := by unfold gotE; rw [if_neg (by omega), if_pos hkk]
    have hk' : (IntKind.u64.wrap x.kind).tmod 3 = 1 := hkk
    have hm := RMark_any W0.drew g s hA.drew
    rw [hE]
    obtain ⟨y, hy⟩ : ∃ y, y = (rM s).1 := ⟨_, rfl⟩
    obtain ⟨z, hz⟩ : ∃ z, z = x.is := ⟨_, rfl⟩
    rw [← hy] at hm
    rw [← hy, ← hz]
    have hW1 := HW0.out
    rw [← hz] at hW1 hc2
    have HW1 := Lib.hid hW1
    clear hW1 HW0
    clear hE hkk hlA htA hnl hnt hc1 hc3 hy hz
    go_enter Try.func29, Try.ntmps29
    go_wp2_with fail
    rw [HW1.out]
    have hS : W0.drew.cell? ⟨w.heap.size, 2, none⟩ = some (.bool z) := hc2
    clear HW1
    go_region_held3 (fun w' => w'.cell? ⟨w.heap.size, 2, none⟩ = some (.bool z)) (first | assumption | exact keepG1 (by assumption) (by assumption) hBg)
      (first | (go_at_call 25; refine hm.mono ?_; rintro e w2 ⟨rfl, h2, hk2⟩))
    go_wp2_with fail
    go_ret
    exact ⟨by cases y <;> cases z <;> rfl, h2, hkA.drew.then hk2⟩
  · have hE : gotE x s = (decide ((rT s).1 = x.t), (rT s).2) := by unfold gotE; rw [if_neg (by omega), if_neg (by omega)]
    have hk' : (IntKind.u64.wrap x.kind).tmod 3 = 2 := hkk
    have hm := RText_any W0.drew g s hA.drew hlen
    unfold RTPost at hm
    rw [hE]
    clear hE hkk hlA hnl hc1 hc2
    go_enter Try.func29, Try.ntmps29
    go_wp2_with fail
    rw [HW0.out]
    have hS : W0.drew.cell? ⟨w.heap.size, 3, none⟩ = some (.slice at_ x.t.length ct) := hc3
    have htd : Bs W0.drew (.slice at_ x.t.length ct) x.t := htA.drew
    clear HW0
    go_region_held3 (fun w' => w'.cell? ⟨w.heap.size, 3, none⟩ = some (.slice at_ x.t.length ct)) (first | assumption | exact keepG1 (by assumption) (by assumption) hBg | exact keepB1 (by assumption) (by assumption))
      (first
        | (go_at_call 20; refine hm.mono ?_; rintro e w2 ⟨r, rfl, ho2, h2, hk2⟩; obtain ⟨a2, n2, c2, rfl, Hn2, ho2⟩ := OwnB.named ho2; have ht2 := htd.kept1 hk2 (fun hn k hi e => hnt hn k hi e))
        | (go_at_call 15; refine (Bytes_any _ _ _ _ _ ho2.bs ht2).mono ?_; rintro e w3 ⟨rfl, hb3⟩))
    go_wp2_with fail
    go_ret
    exact ⟨rfl, h2.below hb3, (hkA.drew.then hk2).belowG hb3 (hkA.drew.then hk2).size⟩

end Cam
