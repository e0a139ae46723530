import Derived.Test.YteabnccmomdnpaaCmP
import Derived.Test.YteabnccmomdnpaaClX
/- cambistlaw18.kept; plain laws of what is asked, met and left out. -/
namespace Cam
open Go Go.RowKit Go.Proofs

/-- a call that is there in both has the same deadline -/
def KeptP (la lb : List CT) : Prop := ∀ c ∈ la, ∀ d ∈ lb, d.who = c.who → d.cur = c.cur → d.tick = c.tick
theorem ix_ex (who cur : Int) (l : List CT) : ∃ r, IsIx who cur l r := by
  by_cases h : ∃ p : Nat, ∃ hp : p < l.length, (l[p].who = who ∧ l[p].cur = cur)
  · have key : ∀ n p : Nat, p ≤ n → ∀ hp : p < l.length, (l[p].who = who ∧ l[p].cur = cur) → ∃ r, IsIx who cur l r := by
      intro n
      induction n with
      | zero =>
        intro p hp0 hp hx
        obtain rfl : p = 0 := by omega
        exact ⟨0, Or.inr ⟨0, hp, rfl, hx, fun q hq => by omega⟩⟩
      | succ n ih =>
        intro p hpn hp hx
        by_cases he : ∃ q : Nat, ∃ hq : q < p, (l[q].who = who ∧ l[q].cur = cur)
        · obtain ⟨q, hq, hqx⟩ := he
          exact ih q (by omega) (by omega) hqx
        · exact ⟨p, Or.inr ⟨p, hp, rfl, hx, fun q hq hqx => he ⟨q, hq, hqx⟩⟩⟩
    obtain ⟨p, hp, hx⟩ := h
    exact key p p (Nat.le_refl _) hp hx
  · exact ⟨-1, Or.inl ⟨rfl, fun q hq hx => h ⟨q, hq, hx⟩⟩⟩
theorem ix_one {who cur r s : Int} {l : List CT} (h : IsIx who cur l r) (k : IsIx who cur l s) : r = s := by
  rcases h with ⟨h1, h2⟩ | ⟨p, hp, h1, h2, h3⟩
  · rcases k with ⟨k1, k2⟩ | ⟨q, hq, k1, k2, k3⟩
    · rw [h1, k1]
    · exact absurd k2 (h2 q hq)
  · rcases k with ⟨k1, k2⟩ | ⟨q, hq, k1, k2, k3⟩
    · exact absurd h2 (k2 p hp)
    · rcases Nat.lt_trichotomy p q with e | e | e
      · exact absurd h2 (k3 p e)
      · rw [h1, k1, e]
      · exact absurd k2 (h3 q e)
theorem Called_at (w : World) (who cur : Int) (v : Value) (l : List CT) (r : Int) (h : Cs w v l) (hl : l.length ≤ 100000) (hr : IsIx who cur l r) :
    Calls Try.prog 15 #[.int .i64 who, .int .i64 cur, v] w fun e w' => e = .returned (.int .i64 r) ∧ w = w' := by
  refine (Called_any w who cur v l h hl).mono ?_
  rintro e w' ⟨s, rfl, hs, rfl⟩
  exact ⟨by rw [ix_one hs hr], rfl⟩

set_option maxRecDepth 100000 in
set_option maxHeartbeats 3200000 in
theorem kept_any (w : World) (va vb : Value) (la lb : List CT) (ha : Cs w va la) (hb : Cs w vb lb) (hla : la.length ≤ 100000) (hlb : lb.length ≤ 100000) (hk : KeptP la lb) :
    Calls Try.prog 18 #[va, vb] w fun e w' => e = .returned (.bool true) ∧ Below w.heap.size w w' := by
  obtain ⟨aa, ca, rfl, hcapa, hma⟩ := ha.shape
  obtain ⟨ab, cb, rfl, hcapb, hmb⟩ := hb.shape
  obtain ⟨n, hn⟩ : ∃ n, n = la.length := ⟨_, rfl⟩
  obtain ⟨m, hm⟩ : ∃ m, m = lb.length := ⟨_, rfl⟩
  rw [← hn] at ha hcapa hla ⊢
  rw [← hm] at hb hcapb hlb ⊢
  have HN := Lib.hid hn
  have HM := Lib.hid hm
  have HA := Lib.hid ha
  have HB := Lib.hid hb
  have HK := Lib.hid hk
  have HLB := Lib.hid hlb
  clear hn hm ha hb hk hlb
  go_enter Try.func18, Try.ntmps18
  go_wp2_with fail
  go_loopw [5] (fun i wr => ∃ k : Nat, k ≤ n ∧ i = .int .i64 k ∧ Below w.heap.size w wr) (fun i _ => n - (intOf i).toNat)
  case atStart => exact ⟨0, Nat.zero_le _, rfl, Below.refl _ _⟩
  case round =>
    obtain ⟨k, hk, rfl, hbel⟩ := hrel
    by_cases hlt : k < n
    · have hkl : k < la.length := by have := HN.out; omega
      obtain ⟨bl, off, rfl, _, hc⟩ := Cs.at4 (HA.out.mono hbel) (by omega)
      obtain ⟨c, hcx⟩ : ∃ c, c = la[k] := ⟨_, rfl⟩
      obtain ⟨c0, c1, c2, c3⟩ := hc k hkl
      rw [← hcx] at c0 c1 c2 c3
      have HCM : Hid (c ∈ la) := by show _ ∈ _; rw [hcx]; exact List.getElem_mem _
      obtain ⟨cw, cc, ca', ct⟩ := c
      simp only at c0 c1 c2 c3
      obtain ⟨r, hr⟩ := ix_ex cw cc lb
      have cl : ∀ q, Calls Try.prog 15 #[.int .i64 cw, .int .i64 cc, .slice ab m cb] (wr.drewN q) fun e w' => e = .returned (.int .i64 r) ∧ wr.drewN q = w' := fun q =>
        Called_at (wr.drewN q) cw cc _ lb r ((HB.out.mono hbel).mono (below_drewN' (Below.refl _ _) q)) (by have := HM.out; have := HLB.out; omega) hr
      have HR := Lib.hid hr
      have HBEL := Lib.hid hbel
      have HB4 := Lib.hid (HB.out.mono hbel)
      clear hc hcx hr hbel c2
      go_wp2_with fail
      go_quiet ((go_at_call 15; exact quiet_left (cl _)))
      rcases HR.out with ⟨rfl, _⟩ | ⟨p, hp, rfl, hx, hy⟩
      · go_wp2_with fail
        go_quiet (fail)
        go_wp2_with fail
        exact ⟨⟨k + 1, by omega, by push_cast; rfl, below_drewN' HBEL.out _⟩, by simp [intOf]; omega⟩
      · have ht := HK.out _ HCM.out _ (List.getElem_mem hp) hx.1 hx.2
        obtain ⟨bx, ox, rfl, _, hd⟩ := Cs.at4 HB4.out (by omega)
        obtain ⟨z0, z1, z2, e3⟩ := hd p hp
        rw [ht] at e3
        simp only at e3
        have hpm : p < m := by have := HM.out; omega
        clear hd z0 z1 z2 ht hx hy hp
        go_wp2_with fail
        go_quiet (fail)
        go_wp2_with fail
        exact ⟨⟨k + 1, by omega, by push_cast; rfl, below_drewN' HBEL.out _⟩, by simp [intOf]; omega⟩
    · go_wp2_with fail
      go_ret
      exact ⟨rfl, hbel⟩

theorem same_key {l : List CT} (hg : Goods l) {c d : CT} (hc : c ∈ l) (hd : d ∈ l) (h : kOf c = kOf d) : c = d := by
  have h1 := look_of hg.2 hc
  have h2 := look_of hg.2 hd
  rw [h, h2] at h1
  cases h1
  rfl
theorem kept_put {l : List CT} (hg : Goods l) (who cur amt at0 : Int) : KeptP l (putL l who cur amt at0) := by
  intro c hc d hd hw hcur
  have hk : kOf d = kOf c := by unfold kOf; rw [hw, hcur]
  unfold putL at hd
  simp only [List.mem_append, List.mem_filter] at hd
  rcases hd with hd | hd | hd
  · rw [same_key hg hd.1 hc hk]
  · have hkd := midL_key (o := look (3 * who + cur) l) (fun c hc => (look_mem hc).2) d hd
    have hlk := look_of hg.2 hc
    rw [← hk, hkd] at hlk
    unfold midL at hd
    rw [hlk] at hd
    split at hd
    · cases hd
    · simp at hd
      rw [hd]
  · rw [same_key hg hd.1 hc hk]
theorem kept_wo (ws : List Int) {l : List CT} (hg : Goods l) : KeptP l (withoutL ws l) := by
  intro c hc d hd hw hcur
  have hk : kOf d = kOf c := by unfold kOf; rw [hw, hcur]
  unfold withoutL at hd
  rw [same_key hg (List.mem_filter.1 hd).1 hc hk]
theorem wo_goods (ws : List Int) {l : List CT} (hg : Goods l) : Goods (withoutL ws l) := by
  unfold withoutL
  exact ⟨fun c hc => hg.1 c (List.mem_filter.1 hc).1, hg.2.filter _⟩
theorem ofL_wo (who cur : Int) (l : List CT) : ofL who cur (withoutL [who] l) = 0 := by
  apply ofL_no
  intro q hq hx
  have := (List.mem_filter.1 (List.getElem_mem hq)).2
  simp at this
  exact this hx.1
theorem ofL_put {l : List CT} (hg : Goods l) {who cur amt at0 : Int} (ha : argB who cur amt at0 = true) : ofL who cur (putL l who cur amt at0) = amt := by
  have hp := argB_parts ha
  rw [ofL_find, findP_look (fun c hc => okB_in ((put_goods hg ha).1 c hc)) hp.1.1.2, look_put_same]
  unfold midL
  by_cases h0 : amt = 0
  · rw [if_pos h0, h0]
    rfl
  · rw [if_neg h0]
    cases look (3 * who + cur) l with
    | some c => rfl
    | none =>
      simp only
      rw [if_pos (by omega)]
      rfl
theorem fm_len {α β : Type} {f : α → List β} {m : Nat} : ∀ {l : List α}, (∀ a ∈ l, (f a).length ≤ m) → (l.flatMap f).length ≤ l.length * m
  | [], _ => by simp
  | a :: l, h => by
    have h1 := h a (by simp)
    have h2 := fm_len (f := f) (m := m) (l := l) (fun b hb => h b (by simp [hb]))
    rw [List.flatMap_cons, List.length_append, List.length_cons, Nat.succ_mul]
    omega
theorem goods_len {l : List CT} (h : Goods l) : l.length ≤ 48 := by
  have h1 : ∀ a : Nat, ((List.range 3).flatMap fun (b : Nat) => (look (3 * ((a : Int) + 1) + (b : Int)) l).toList).length ≤ 3 := fun a => by
    have := fm_len (f := fun (b : Nat) => (look (3 * ((a : Int) + 1) + (b : Int)) l).toList) (m := 1) (l := List.range 3) (fun b _ => by cases look (3 * ((a : Int) + 1) + (b : Int)) l <;> simp)
    rw [List.length_range] at this
    exact this
  have h2 := fm_len (f := fun (a : Nat) => (List.range 3).flatMap fun (b : Nat) => (look (3 * ((a : Int) + 1) + (b : Int)) l).toList) (m := 3) (l := List.range 16) (fun a _ => h1 a)
  rw [List.length_range] at h2
  rw [goods_canon h]
  exact h2
end Cam
