import Derived.Test.YtgeclnjkkjmbaaaWsH
import Derived.Deep.CutBlock
/- The page's reader beside memory of the call's own; how many elements a list has. -/
namespace Cam
open Go Go.RowKit Go.Proofs

theorem QPost.keptS {S : Nat → Prop} {tq : TypeId} {W w w' : World} {g : Nat} {B : List UInt8} {v : Value} {s : RS} (h : QPost tq W g B v s w) (hk : Kept S w w') (hS : ∀ k, S k → g < k ∧ W.heap.size ≤ k) : QPost tq W g B v s w' := by
  obtain ⟨m, h1, h2, h3⟩ := h
  exact ⟨m, h1.kept hk (fun k hk e => by have := hS k e; omega), h2, h3.trans hk (fun i hi e => by have := hS i e; omega)⟩
/-- M hangs on no memory of S -/
def Firm (S : Nat → Prop) (M : World → Prop) : Prop := ∀ w w', M w → Kept S w w' → M w'
theorem Firm.mono {S T : Nat → Prop} {M : World → Prop} (h : Firm S M) (hs : ∀ k, T k → S k) : Firm T M := fun w w' hm hk => h w w' hm (hk.weaken hs)
theorem Firm.below {S : Nat → Prop} {M : World → Prop} (h : Firm S M) {w w' : World} (hm : M w) (hb : Below w.heap.size w w') : M w' := h _ _ hm ((Kept.of_below hb).weaken (fun _ h => h.elim))
theorem Firm.and {S : Nat → Prop} {M N : World → Prop} (h : Firm S M) (k : Firm S N) : Firm S (fun w => M w ∧ N w) := fun w w' hm hk => ⟨h w w' hm.1 hk, k w w' hm.2 hk⟩
theorem Firm.ht {S : Nat → Prop} {a : Nat} {t : TypeId} {C : List Value} (h : ¬ S a) : Firm S (fun w => HT w a t C) := fun _ _ hm hk => hm.keptH hk h
theorem Firm.own' {α : Type} {enc : α → List Value} {K base : Nat} {S : Nat → Prop} {t : TypeId} {v : Value} {L : List α} (h : ∀ k, v.ownBlock = some k → ¬ S k) : Firm S (fun w => OwnR enc K t w base v L) := fun _ _ hm hk => OwnR.keptS hm hk h
theorem Firm.own {α : Type} {enc : α → List Value} {K g base : Nat} {t : TypeId} {v : Value} {L : List α} (h : g < base) : Firm (fun k => k = g) (fun w => OwnR enc K t w base v L) := fun _ _ hm hk => OwnR.keptS hm hk (fun k hk e => by have := OwnR.ge hm k hk; omega)
theorem Firm.size {S : Nat → Prop} {b : Nat} : Firm S (fun w => b ≤ w.heap.size) := fun _ _ hm hk => Nat.le_trans hm hk.size
theorem Cls.and {S0 S R : World → Prop} (h : Cls S0 S) (hr : ∀ w w', R w → Below w.heap.size w w' → R w') : Cls S0 (fun w => S w ∧ R w) := ⟨fun w k => h.sub w k.1, fun w w' k hb => ⟨h.mono w w' k.1 hb, hr w w' k.2 hb⟩⟩
/-- the page's reader has read on to s, and M holds -/
def QM (W : World) (g : Nat) (B : List UInt8) (v : Value) (s : RS) (M : World → Prop) (w : World) : Prop := QPost 98 W g B v s w ∧ M w
theorem QM.below {W w w' : World} {g : Nat} {B : List UInt8} {v : Value} {s : RS} {M : World → Prop} {S : Nat → Prop} (hf : Firm S M) (h : QM W g B v s M w) (hb : Below w.heap.size w w') : QM W g B v s M w' := ⟨h.1.below hb, hf.below h.2 hb⟩
theorem QM.cls {S0 : World → Prop} {W : World} {g : Nat} {B : List UInt8} {v : Value} {s : RS} {M : World → Prop} {S : Nat → Prop} (hf : Firm S M) (h0 : ∀ w, M w → S0 w) : Cls S0 (QM W g B v s M) := ⟨fun w h => h0 w h.2, fun _ _ h hb => QM.below hf h hb⟩
theorem QM_Int {W w : World} {g : Nat} {B : List UInt8} {v : Value} {s : RS} {M : World → Prop} {S : Nat → Prop} (hf : Firm S M) (hg : S g) (h : QM W g B v s M w) (hlen : B.length ≤ 70368744177664) :
    Calls Try.prog 34 #[.pointer (some ⟨g, 0, none⟩)] w fun r w' => r = .returned (.int .i64 (rI s).1) ∧ QM W g B v (rI s).2 M w' := by
  refine (QInt_at h.1 hlen).mono ?_
  rintro r w' ⟨h1, h2, h3⟩
  exact ⟨h1, h2, hf _ _ h.2 (h3.weaken (fun k e => by rw [e]; exact hg))⟩

/-- how many elements a list has -/
def mny (s : RS) : Int × RS := if (rI s).2.2 = 0 then (if (rI s).1 < 0 ∨ 1024 < (rI s).1 then (0, ((rI s).2.1, 4)) else rI s) else (0, (rI s).2)
theorem mny_range (s : RS) : 0 ≤ (mny s).1 ∧ (mny s).1 ≤ 1024 := by
  unfold mny
  split
  · split
    · simp
    · omega
  · simp
def MnPost (W : World) (g : Nat) (B : List UInt8) (v : Value) (s : RS) (M : World → Prop) (r : Ending) (w' : World) : Prop := r = .returned (.int .i64 (mny s).1) ∧ QM W g B v (mny s).2 M w'
set_option maxHeartbeats 1600000 in
theorem many_any {W w : World} {g : Nat} {B : List UInt8} {v : Value} {s : RS} {M : World → Prop} (hf : Firm (fun k => k = g) M) (h : QM W g B v s M w) (hlen : B.length ≤ 70368744177664) :
    Calls Try.prog 67 #[.pointer (some ⟨g, 0, none⟩)] w (MnPost W g B v s M) := by
  have qi := QM_Int hf rfl h hlen
  have hnr := rI_range s
  obtain ⟨n, hn⟩ : ∃ n, n = (rI s).1 := ⟨_, rfl⟩
  obtain ⟨s1, hs1⟩ : ∃ s1, s1 = (rI s).2 := ⟨_, rfl⟩
  have HM : Hid (mny s = if s1.2 = 0 then (if n < 0 ∨ 1024 < n then (0, (s1.1, 4)) else (n, s1)) else (0, s1)) := by
    show _ = _
    unfold mny
    rw [hn, hs1]
  rw [← hn, ← hs1] at qi
  rw [← hn] at hnr
  have HF := Lib.hid hf
  clear hn hs1 h hf
  go_enter Try.func67, Try.ntmps67
  go_wp2_with fail
  refine qi.mono ?_
  clear qi
  rintro e w1 ⟨rfl, hq⟩
  obtain ⟨⟨m, hqr, hd, hk⟩, hm⟩ := hq
  have hcs := hqr.cells.2.2.1
  have hfr := hqr.cells.2.2.2.2
  have hput := hqr.put2 4
  have HQ := Lib.hid (⟨⟨m, hqr, hd, hk⟩, hm⟩ : QM W g B v s1 M w1)
  have HP : Hid (QM W g B v (s1.1, 4) M (w1.setCell ⟨g, 2, none⟩ (.int .i64 4))) := ⟨⟨m, hput.1, hd, hk.trans hput.2 (fun _ _ h => h)⟩, HF.out _ _ hm hput.2⟩
  have hcp := hput.1.cells.2.2.1
  clear hqr hd hk hm hput
  obtain ⟨b, hb⟩ : ∃ b, b = s1.2 := ⟨_, rfl⟩
  rw [← hb] at hcs HM
  have HB := Lib.hid hb
  clear hb
  by_cases hz : b = 0
  · subst hz
    by_cases hneg : n < 0
    · have HE : Hid (mny s = (0, (s1.1, 4))) := by show _ = _; rw [HM.out, if_pos rfl, if_pos (.inl hneg)]
      have hng : decide (n < 0) = true := by simpa using hneg
      clear hneg
      go_wp2_with fail
      go_ret
      exact ⟨by rw [HE.out]; rfl, by rw [HE.out]; exact HP.out⟩
    · by_cases hbig : 1024 < n
      · have HE : Hid (mny s = (0, (s1.1, 4))) := by show _ = _; rw [HM.out, if_pos rfl, if_pos (.inr hbig)]
        have hng : decide (n < 0) = false := by simpa using hneg
        clear hneg
        go_wp2_with fail
        go_ret
        exact ⟨by rw [HE.out]; rfl, by rw [HE.out]; exact HP.out⟩
      · have HE : Hid (mny s = (n, s1)) := by show _ = _; rw [HM.out, if_pos rfl, if_neg (by omega)]
        have hng : decide (n < 0) = false := by simpa using hneg
        clear hneg
        go_wp2_with fail
        go_ret
        exact ⟨by rw [HE.out]; rfl, by rw [HE.out]; exact HQ.out⟩
  · have HE : Hid (mny s = (0, s1)) := by show _ = _; rw [HM.out, if_neg hz]
    have hz1 : (b == 0) = false := by simpa using hz
    have hz2 : (b != 0) = true := by rw [bne_iff_ne]; exact hz
    clear hz
    go_wp2_with fail
    go_ret
    exact ⟨by rw [HE.out]; rfl, by rw [HE.out]; exact HQ.out⟩

/-- the page reads rows, up to the first that can't be read -/
def QL {α : Type} (rd : RS → α × RS) (s : RS) (L : List α) (s' : RS) : Prop := ∃ j, j ≤ (mny s).1.toNat ∧ L = (rRs rd j (mny s).2).1 ∧ s' = (rRs rd j (mny s).2).2 ∧ (j = (mny s).1.toNat ∨ s'.2 ≠ 0)

theorem step_append_rows {α : Type} {enc : α → List Value} {K : Nat} {P : Program} {ops : Array Oper} {o : Oper} {a : Act} {w : World} {K' : Act → World → Prop} {Q : Exit → Act → World → Prop} {E' : Prop}
    (hg : o.guard = none) (s x : Operand) (t : TypeId) (hop : o.op = Op.call { callee := Callee.builtin Builtin.append, args := #[s, x], argTypes := #[t, t] })
    {e base bytes : Nat} {v vx : Value} {L M : List α} (E : Elem P t e K bytes) (hs : a.eval s = v) (hx : a.eval x = vx)
    (hown : OwnR enc K e w base v L) (hsrc : Rs enc K w vx M) (h1 : ∀ a, ∀ u ∈ enc a, u.oneCell' = true) (hlen : (L.length + M.length) * bytes ≤ 140737488355328) (hb : 0 < bytes) (hbase : base ≤ w.heap.size)
    (h : ∀ a' n' cap' w', Hid (n' = L.length + M.length) → OwnR enc K e w' base (.slice a' n' cap') (L ++ M) → w.grownBy w' v.ownBlock →
      Hid ((Value.slice a' n' cap').ownBlock = v.ownBlock ∨ (Value.slice a' n' cap').ownBlock = some w.heap.size) → Below base w w' → K' (a.put o.dst (.slice a' n' cap')) w') :
    if Region.wanted o (yielded ops a.tmps) = true then Oper.wp P o a w K' Q else E' := by
  have hw : Region.wanted o (yielded ops a.tmps) = true := by simp [Region.wanted, hg]
  rw [if_pos hw]
  have hl : L.length + M.length ≤ maxLen := by
    have := Nat.le_mul_of_pos_right (L.length + M.length) hb
    unfold maxLen
    omega
  obtain ⟨a', cap', w', hr, h2, h3, h4⟩ := run_append_sl_at (P := P) (ty := o.type) w E hown.2 hsrc.2 (flatW_one h1 M) hl hlen hbase
  unfold Oper.wp execOp
  simp only [hop, resolve, invoke, builtin, Sem.run_bind, Sem.run_pure, Result.andThen_ok, List.map_toArray, List.map_cons, List.map_nil, hs, hx, hr]
  exact h a' _ cap' w' rfl (OwnR.app hown.1 h2) h3 h4 ((Below.refl _ _).grown h3 hbase (fun k hk => hown.ge k hk))
end Cam
