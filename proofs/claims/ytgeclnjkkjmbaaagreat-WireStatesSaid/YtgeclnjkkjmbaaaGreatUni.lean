import Derived.Test.YtgeclnjkkjmbaaaGreatMem
import Derived.OrdersHeld
import Derived.Deep.RegionHeld3
import Derived.Deep.MidRow
/- A region that draws its order, walked in ONE order: each operation that in every world of a kind gives one value, and at most makes memory, is taken first. No program in sight. -/
namespace Cam
open Go Go.RowKit
set_option linter.unusedVariables false
set_option linter.unusedSimpArgs false
set_option maxHeartbeats 200000
section
variable {P : Program} {ops : Array Oper} {Q : Exit → Act → World → Prop} {md : Region.Mode}
structure Cls (S0 S : World → Prop) : Prop where
 sub : ∀ w, S w → S0 w
 mono : ∀ w w', S w → Below w.heap.size w w' → S w'
def EffR (P : Program) (v : Value) (w : World) : Result Next → Prop
 | .ok (.value u) w' => u = v ∧ Below w.heap.size w w'
 | .ok (.enter f args) w' => Calls P f args w' fun e w'' => e = .returned v ∧ Below w.heap.size w w''
 | _ => False
theorem EffR.same {v : Value} {w : World} {r : Result Next} (h : r = .ok (.value v) w) : EffR P v w r := by
 subst h
 exact ⟨rfl, Below.refl _ _⟩
def EffS (P : Program) (ops : Array Oper) (S0 : World → Prop) (o : Oper) (v : Value) (a : Act) : Prop :=
 (Region.wanted o (yielded ops a.tmps) = true ∧ ∀ w, S0 w → EffR P v w ((execOp a.eval o).run P w)) ∨ (Region.wanted o (yielded ops a.tmps) = false ∧ v = undef)
theorem EffS.wpOp {S0 S : World → Prop} {i : Nat} {o : Oper} {v : Value} {a : Act} (hi : ops[i]? = some o) (hy : EffS P ops S0 o v a) (hc : Cls S0 S)
  {K : Act → World → Prop} {w : World} (hS : S w) (h : ∀ w', S w' → K (a.put o.dst v) w') : wpOp P ops Q i K a w := by
 unfold Go.wpOp
 simp only [hi]
 rcases hy with ⟨hw, hv⟩ | ⟨hw, rfl⟩
 ·
  simp only [hw, if_true]
  refine .inl ?_
  have hr := hv w (hc.sub w hS)
  unfold Oper.wp
  generalize (execOp a.eval o).run P w = r at hr
  cases r with
  | ok n w' =>
   cases n with
   | value u =>
    obtain ⟨rfl, hb⟩ := hr
    exact h w' (hc.mono w w' hS hb)
   | enter f args =>
    refine Calls.mono (show Calls P f args w' _ from hr) fun e w'' he => ?_
    obtain ⟨rfl, hb⟩ := he
    exact h w'' (hc.mono w w'' hS hb)
   | _ => exact hr.elim
  | _ => exact hr.elim
 ·
  simp only [hw, Bool.false_eq_true, if_false]
  exact h w hS
theorem EffS.of_same {S0 : World → Prop} {o : Oper} {v : Value} {a a' : Act} (hy : EffS P ops S0 o v a) (he : execOp a'.eval o = execOp a.eval o)
  (hw : Region.wanted o (yielded ops a'.tmps) = Region.wanted o (yielded ops a.tmps)) : EffS P ops S0 o v a' := by
 unfold EffS at *
 rw [he, hw]
 exact hy
theorem wpOp_putS {S0 : World → Prop} {j : Nat} {oi oj : Oper} {v : Value} (hj : ops[j]? = some oj) (hap : oi.apart ops oj = true)
  (hsi : ∀ cs b, oi.op ≠ .select cs b) (hsj : ∀ cs b, oj.op ≠ .select cs b)
  (hQ : ∀ c a w, Q (.panic c) (a.put oi.dst v) w → Q (.panic c) a w) {K : Act → World → Prop} {a : Act} {w : World}
  (hy : EffS P ops S0 oi v a) (h : wpOp P ops Q j K (a.put oi.dst v) w) :
  wpOp P ops Q j (fun a' w' => EffS P ops S0 oi v a' ∧ K (a'.put oi.dst v) w') a w := by
 obtain ⟨h1, h2, h3⟩ := Oper.apart_spec hap
 have keep : ∀ (a : Act), EffS P ops S0 oi v a → ∀ u, EffS P ops S0 oi v (a.put oj.dst u) := fun a hy u =>
  hy.of_same (execOp_put oi hsi a oj.dst u h3) (wanted_put oi a oj.dst u h3)
 have keepD : ∀ d, EffS P ops S0 oi v { a with defers := d :: a.defers } := fun d => hy.of_same rfl rfl
 unfold wpOp at *
 simp only [hj] at *
 rw [wanted_put oj a oi.dst v h1] at h
 split
 ·
  rename_i hw
  simp only [hw, if_true] at h
  rcases h with h | ⟨hasks, hlets⟩
  case inr => exact .inr ⟨by unfold Oper.asks at *; rw [execOp_put oj hsj a oi.dst v h1] at hasks; exact hasks, hlets⟩
  refine .inl ?_
  unfold Oper.wp at *
  rw [execOp_put oj hsj a oi.dst v h1] at h
  generalize (execOp a.eval oj).run P w = r at *
  cases r with
  | ok n w' =>
   cases n <;> simp only [Oper.upon] at h ⊢
   case value u => exact ⟨keep a hy u, by rw [← Act.put_comm a v u h2]; exact h⟩
   case skip => exact ⟨keep a hy _, by rw [← Act.put_comm a v undef h2]; exact h⟩
   case defer d =>
    refine ⟨keep _ (keepD d) _, ?_⟩
    rw [← Act.put_comm _ v undef h2, ← Act.put_defers]
    exact h
   case enter f args =>
    refine Calls.mono h fun e w'' he => ?_
    cases e with
    | returned u => exact ⟨keep a hy u, by rw [← Act.put_comm a v u h2]; exact he⟩
    | panicked c => exact hQ _ _ _ he
    | outgrown => exact he
   case row row args => exact Rows.mono h fun u w'' he => ⟨keep a hy u, by rw [← Act.put_comm a v u h2]; exact he⟩
  | halt x w' =>
   cases x <;> simp only [Oper.upon] at h ⊢
   case panic u => exact hQ _ _ _ h
 ·
  rename_i hw
  simp only [hw] at h
  exact ⟨keep a hy _, by rw [← Act.put_comm a v undef h2]; exact h⟩
def waits (md : Region.Mode) (ops : Array Oper) : Nat → Nat → Nat → Bool
 | 0, _, _ => false
 | f + 1, s, i => match ops[s]? with
  | none => false
  | some o => (o.after.any fun e => Region.binds md e && e.on == i) || o.after.any fun e => Region.binds md e && waits md ops f e.on i
def Closed (md : Region.Mode) (ops : Array Oper) (listed : Array Bool) : Prop := ∀ k o, ops[k]? = some o → listed.getD k false = true → ∀ e ∈ o.after, Region.binds md e = true → listed.getD e.on false = true
def closedB (md : Region.Mode) (ops : Array Oper) (listed : Array Bool) : Bool :=
 (List.range ops.size).all fun k => !listed.getD k false || match ops[k]? with
  | none => true
  | some o => o.after.all fun e => !Region.binds md e || listed.getD e.on false
theorem closed_of {listed : Array Bool} (h : closedB md ops listed = true) : Closed md ops listed := by
 intro k o ho hk e he hb
 have hlt : k < ops.size := (Array.getElem?_eq_some_iff.1 ho).1
 have h1 := List.all_eq_true.1 h k (List.mem_range.2 hlt)
 rw [hk, ho] at h1
 have h2 : (o.after.all fun e => !Region.binds md e || listed.getD e.on false) = true := by simpa using h1
 have h3 := Array.all_eq_true_iff_forall_mem.1 h2 e he
 rw [hb] at h3
 simpa using h3
theorem getD_set_cases {listed : Array Bool} {j k : Nat} (h : (listed.setIfInBounds j true).getD k false = true) : k = j ∨ listed.getD k false = true := by
 by_cases e : j = k
 ·
  exact Or.inl e.symm
 ·
  exact Or.inr (by rwa [getD_set_ne false e] at h)
theorem closed_set {listed : Array Bool} (h : Closed md ops listed) {j : Nat} (hj : j ∈ Region.ready md ops listed) : Closed md ops (listed.setIfInBounds j true) := by
 intro k o ho hk e he hb
 rcases getD_set_cases hk with rfl | hk
 ·
  obtain ⟨_, o', ho', hall⟩ := mem_ready.1 hj
  rw [ho] at ho'
  cases ho'
  exact getD_set_true (hall e he hb)
 ·
  exact getD_set_true (h k o ho hk e he hb)
theorem waits_listed {listed : Array Bool} (h : Closed md ops listed) : ∀ (f s i : Nat), waits md ops f s i = true → (∀ o, ops[s]? = some o → ∀ e ∈ o.after, Region.binds md e = true → listed.getD e.on false = true) → listed.getD i false = true
 | 0, _, _, hw, _ => by simp [waits] at hw
 | f + 1, s, i, hw, hs => by
  unfold waits at hw
  cases ho : ops[s]? with
  | none => rw [ho] at hw; simp at hw
  | some o =>
   rw [ho] at hw
   simp only at hw
   rcases (Bool.or_eq_true _ _ ▸ hw : _ ∨ _) with hw | hw
   ·
    obtain ⟨q, hq, h1⟩ := Array.any_eq_true.1 hw
    simp only [Bool.and_eq_true, beq_iff_eq] at h1
    rw [← h1.2]
    exact hs o ho _ (Array.getElem_mem hq) h1.1
   ·
    obtain ⟨q, hq, h1⟩ := Array.any_eq_true.1 hw
    simp only [Bool.and_eq_true] at h1
    have h2 := hs o ho _ (Array.getElem_mem hq) h1.1
    exact waits_listed h f _ i h1.2 (fun o' ho' e' he' hb' => h _ o' ho' h2 e' he' hb')
def wpAnyU (P : Program) (md : Region.Mode) (ops : Array Oper) (Q : Exit → Act → World → Prop) (S0 : World → Prop) (s : Nat) : Nat → Array Bool → Act → (World → Prop) → Prop
 | 0, listed, a, S => Region.ready md ops listed = [] ∧ ∀ w, S w → Q .normal a w
 | fuel + 1, listed, a, S =>
  (Region.ready md ops listed = [] → ∀ w, S w → Q .normal a w) ∧
  ∀ i ∈ Region.ready md ops listed, ∀ w, S w → wpOp P ops Q i (fun a' w' =>
   (∃ S', Cls S0 S' ∧ S' w' ∧ wpAnyU P md ops Q S0 s fuel (listed.setIfInBounds i true) a' S') ∨
   (i = s ∧ Region.ready md ops (listed.setIfInBounds i true) = [] ∧ Q .normal a' w')) a w
theorem wpAny_of_U {S0 : World → Prop} {s : Nat} : ∀ (fuel : Nat) (listed : Array Bool) (a : Act) (S : World → Prop) (w : World), S w → wpAnyU P md ops Q S0 s fuel listed a S → wpAny P md ops Q fuel listed a w
 | 0, _, _, _, w, hS, h => ⟨h.1, h.2 w hS⟩
 | fuel + 1, listed, _, _, w, hS, h => ⟨fun hr => h.1 hr w hS, fun i hi => wpOp_mono (fun a' w' h' => by
   rcases h' with ⟨S', _, hS', hU⟩ | ⟨_, hr, hq⟩
   ·
    exact wpAny_of_U fuel _ a' S' w' hS' hU
   ·
    cases fuel with
    | zero => exact ⟨hr, hq⟩
    | succ fuel => exact ⟨fun _ => hq, by rw [hr]; simp⟩) (h.2 i hi w hS)⟩
theorem wpAnyU_first {S0 : World → Prop} {s : Nat} {i : Nat} {oi : Oper} {v : Value} (hi : ops[i]? = some oi) (hsel : ∀ (j : Nat) (o : Oper) cs b, ops[j]? = some o → o.op ≠ .select cs b)
  (hQ : ∀ c a w, Q (.panic c) (a.put oi.dst v) w → Q (.panic c) a w) (hlast : ops.size ≤ s ∨ ∃ f, waits md ops f s i = true) :
  ∀ (fuel : Nat) (listed : Array Bool) (a : Act) (S : World → Prop), Closed md ops listed →
   (∀ j oj, ops[j]? = some oj → j ≠ i → listed.getD j true = false → (∀ e ∈ oj.after, Region.binds md e = true → e.on ≠ i) → oi.apart ops oj = true) →
   i ∈ Region.ready md ops listed → EffS P ops S0 oi v a → Cls S0 S →
   wpAnyU P md ops Q S0 s fuel (listed.setIfInBounds i true) (a.put oi.dst v) S → wpAnyU P md ops Q S0 s (fuel + 1) listed a S := by
 intro fuel
 induction fuel with
 | zero =>
  intro listed a S _ _ hr hy hc H
  refine ⟨fun h => (by rw [h] at hr; cases hr), fun j hj w hS => ?_⟩
  by_cases hji : j = i
  ·
   subst hji; exact hy.wpOp hi hc hS (fun w' hS' => .inl ⟨S, hc, hS', H⟩)
  ·
   have := ready_mono hj hji
   rw [H.1] at this
   cases this
 | succ fuel ih =>
  intro listed a S hcl hfree hr hy hc H
  refine ⟨fun h => (by rw [h] at hr; cases hr), fun j hj w hS => ?_⟩
  by_cases hji : j = i
  ·
   subst hji; exact hy.wpOp hi hc hS (fun w' hS' => .inl ⟨S, hc, hS', H⟩)
  ·
   have h1 := H.2 j (ready_mono hj hji) w hS
   obtain ⟨hjun, oj, hoj, hall⟩ := mem_ready.1 hj
   have hiun : listed.getD i false = false := by
    have h0 := (mem_ready.1 hr).1
    rcases Nat.lt_or_ge i listed.size with h' | h'
    ·
     simpa [h'] using h0
    ·
     simp [Array.getElem?_eq_none h'] at h0
   have hjs : j ≠ s := fun e => by
    rcases hlast with h' | ⟨f, h'⟩
    ·
     have := (Array.getElem?_eq_some_iff.1 hoj).1
     omega
    ·
     subst e
     have := waits_listed hcl f j i h' (fun o ho e he hb => by rw [hoj] at ho; cases ho; exact hall e he hb)
     rw [hiun] at this
     cases this
   have hnot : ∀ e ∈ oj.after, Region.binds md e = true → e.on ≠ i := fun e he hb heq => by
    have h1 := hall e he hb
    rw [heq, hiun] at h1
    cases h1
   have h2 := wpOp_putS hoj (hfree j oj hoj hji hjun hnot) (fun cs b => hsel i oi cs b hi) (fun cs b => hsel j oj cs b hoj) hQ hy h1
   have hfree' : ∀ k ok, ops[k]? = some ok → k ≠ i → (listed.setIfInBounds j true).getD k true = false →
     (∀ e ∈ ok.after, Region.binds md e = true → e.on ≠ i) → oi.apart ops ok = true := fun k ok hk hki hun hno => by
    refine hfree k ok hk hki ?_ hno
    by_cases hjk : j = k
    ·
     subst hjk; exact hjun
    ·
     rw [getD_set_ne true hjk] at hun; exact hun
   refine wpOp_mono (fun a' w' h3 => ?_) h2
   rcases h3.2 with ⟨S', hc', hS', hU⟩ | ⟨e, _⟩
   ·
    refine .inl ⟨S', hc', hS', ih (listed.setIfInBounds j true) a' S' (closed_set hcl hj) hfree' (ready_mono hr (Ne.symm hji)) h3.1 hc' ?_⟩
    rw [Array.setIfInBounds_comm _ _ hji]
    exact hU
   ·
    exact absurd e hjs
theorem wpAnyU_take {S0 S : World → Prop} {s : Nat} {i : Nat} {oi : Oper} {v : Value} {fuel : Nat} {listed : Array Bool} {a : Act} (hi : ops[i]? = some oi)
  (hs : Region.noSelect ops = true) (hf : Region.free md ops listed i = true) (hr : (Region.ready md ops listed).contains i = true) (hcl : closedB md ops listed = true)
  (hlast : (decide (ops.size ≤ s) || waits md ops ops.size s i) = true)
  (hQ : ∀ c a w, Q (.panic c) (a.put oi.dst v) w → Q (.panic c) a w) (hc : Cls S0 S) (hy : EffS P ops S0 oi v a)
  (h : wpAnyU P md ops Q S0 s fuel (listed.setIfInBounds i true) (a.put oi.dst v) S) : wpAnyU P md ops Q S0 s (fuel + 1) listed a S :=
 wpAnyU_first hi (Region.noSelect_spec hs) hQ (by
  rcases Bool.or_eq_true _ _ ▸ hlast with h | h
  ·
   exact .inl (by simpa using h)
  ·
   exact .inr ⟨_, h⟩) fuel listed a S (closed_of hcl) (Region.free_spec hi hf) (by simpa using hr) hy hc h
def AllReadyU (P : Program) (md : Region.Mode) (ops : Array Oper) (Q : Exit → Act → World → Prop) (S0 : World → Prop) (s fuel : Nat) (listed : Array Bool) (a : Act) (S : World → Prop) (rs : List Nat) : Prop :=
 ∀ i ∈ rs, ∀ w, S w → wpOp P ops Q i (fun a' w' =>
   (∃ S', Cls S0 S' ∧ S' w' ∧ wpAnyU P md ops Q S0 s fuel (listed.setIfInBounds i true) a' S') ∨
   (i = s ∧ Region.ready md ops (listed.setIfInBounds i true) = [] ∧ Q .normal a' w')) a w
theorem AllReadyU.nil {S0 S : World → Prop} {s fuel : Nat} {listed : Array Bool} {a : Act} : AllReadyU P md ops Q S0 s fuel listed a S [] := fun _ h => by cases h
theorem AllReadyU.cons {S0 S : World → Prop} {s fuel : Nat} {listed : Array Bool} {a : Act} {i : Nat} {o : Oper} {rs : List Nat} (ho : ops[i]? = some o)
  (h : ∀ w, S w → ∀ K' : Act → World → Prop, Shut (∀ a w' (S' : World → Prop), Cls S0 S' → S' w' → wpAnyU P md ops Q S0 s fuel (listed.setIfInBounds i true) a S' → K' a w') → if Region.wanted o (yielded ops a.tmps) = true then Oper.wp P o a w K' Q else K' (a.put o.dst undef) w)
  (hs : AllReadyU P md ops Q S0 s fuel listed a S rs) : AllReadyU P md ops Q S0 s fuel listed a S (i :: rs) := fun j hj w hS => by
 rcases List.mem_cons.1 hj with rfl | hj
 ·
  exact wpOp_step ho (fun K' hK => h w hS K' (fun a w' S' hc hS' hW => hK a w' (.inl ⟨S', hc, hS', hW⟩)))
 ·
  exact hs j hj w hS
theorem wpAnyU_ready {S0 S : World → Prop} {s : Nat} {rs : List Nat} {fuel : Nat} {listed : Array Bool} {a : Act} (hr : Region.ready md ops listed = rs) (hne : rs ≠ [])
  (h : AllReadyU P md ops Q S0 s fuel listed a S rs) : wpAnyU P md ops Q S0 s (fuel + 1) listed a S := ⟨fun h0 => absurd (hr ▸ h0) hne, hr ▸ h⟩
theorem wpAnyU_last {S0 S : World → Prop} {s : Nat} {fuel : Nat} {listed : Array Bool} {a : Act} {o : Oper} (hr : Region.ready md ops listed = [s]) (hz : Region.ready md ops (listed.setIfInBounds s true) = []) (ho : ops[s]? = some o)
  (h : ∀ w, S w → ∀ K' : Act → World → Prop, Shut (∀ a w', Q .normal a w' → K' a w') → if Region.wanted o (yielded ops a.tmps) = true then Oper.wp P o a w K' Q else K' (a.put o.dst undef) w) :
  wpAnyU P md ops Q S0 s (fuel + 1) listed a S := by
 refine ⟨fun h0 => (by rw [hr] at h0; cases h0), fun i hi w hS => ?_⟩
 rw [hr] at hi
 obtain rfl : i = s := by simpa using hi
 exact wpOp_step ho (fun K' hK => h w hS K' (fun a w' hq => hK a w' (.inr ⟨rfl, hz, hq⟩)))
theorem wpAnyU_done {S0 S : World → Prop} {s : Nat} {listed : Array Bool} {a : Act} (hr : Region.ready md ops listed = []) (h : ∀ w, S w → Q .normal a w) : ∀ fuel, wpAnyU P md ops Q S0 s fuel listed a S
 | 0 => ⟨hr, h⟩
 | _ + 1 => ⟨fun _ => h, by rw [hr]; simp⟩
theorem wp_region_uni {S0 S : World → Prop} (s : Nat) {id : Nat} {a : Act} {w : World} (hm : P.follows .mixedOrders = true) (hS : S w.drew)
  (h : wpAnyU P .any ops Q S0 s ops.size (Array.replicate ops.size false) a S) : (Code.region id ops true).wp P Q a w :=
 wp_region_any hm (wpAny_of_U _ _ _ S _ hS h)
def BL (W w : World) : Prop := Below W.heap.size W w
theorem BL.cls (W : World) : Cls (BL W) (BL W) := ⟨fun _ h => h, fun _ _ h hb => Below.next h hb⟩
theorem BL.cls' {W w1 : World} (h : Below W.heap.size W w1) : Cls (BL W) (BL w1) := ⟨fun _ h2 => Below.next h h2, fun _ _ h hb => Below.next h hb⟩
theorem BL.cell {W w : World} (h : BL W w) {p : Addr} {v : Value} (hc : W.cell? p = some v) : w.cell? p = some v := (Below.cell h (World.block_lt_of_cell? W _ hc)).trans hc
theorem wp_region_bl (s : Nat) {id : Nat} {a : Act} {w : World} (hm : P.follows .mixedOrders = true)
  (h : wpAnyU P .any ops Q (BL w) s ops.size (Array.replicate ops.size false) a (BL w)) : (Code.region id ops true).wp P Q a w :=
 wp_region_uni s hm (Below.refl _ _).drew h
end
section
variable {P : Program} {ops : Array Oper} {Q : Exit → Act → World → Prop} {md : Region.Mode}
def runOf (P : Program) (ops : Array Oper) (i : Nat) (a : Act) : World → Result Next :=
 match ops[i]? with
 | some o => if Region.wanted o (yielded ops a.tmps) = true then fun w => (execOp a.eval o).run P w else fun w => .ok (.value undef) w
 | none => fun w => .ok .skip w
def runsOf (P : Program) (ops : Array Oper) : List (Nat × Option Tmp × Value) → Act → List (World → Result Next)
 | [], _ => []
 | (i, d, v) :: l, a => runOf P ops i a :: runsOf P ops l (a.put d v)
def wantsOf : List (Nat × Option Tmp × Value) → List (World → Result Next)
 | [] => []
 | (_, _, v) :: l => (fun w => .ok (.value v) w) :: wantsOf l
def putAll : List (Nat × Option Tmp × Value) → Act → Act
 | [], a => a
 | (_, d, v) :: l, a => putAll l (a.put d v)
def markAll : List (Nat × Option Tmp × Value) → Array Bool → Array Bool
 | [], b => b
 | (i, _, _) :: l, b => markAll l (b.setIfInBounds i true)
def mayB (md : Region.Mode) (ops : Array Oper) (s i : Nat) (d : Option Tmp) (listed : Array Bool) : Bool :=
 Region.free md ops listed i && (Region.ready md ops listed).contains i && closedB md ops listed && (decide (ops.size ≤ s) || waits md ops ops.size s i) && ((ops[i]?).map (·.dst) == some d)
def mayAll (md : Region.Mode) (ops : Array Oper) (s : Nat) : List (Nat × Option Tmp × Value) → Array Bool → Bool
 | [], _ => true
 | (i, d, _) :: l, b => mayB md ops s i d b && mayAll md ops s l (b.setIfInBounds i true)
theorem mayB_spec {s i : Nat} {d : Option Tmp} {listed : Array Bool} (h : mayB md ops s i d listed = true) : ∃ o, ops[i]? = some o ∧ o.dst = d ∧ Region.free md ops listed i = true ∧ (Region.ready md ops listed).contains i = true ∧ closedB md ops listed = true ∧ (decide (ops.size ≤ s) || waits md ops ops.size s i) = true := by
 unfold mayB at h
 simp only [Bool.and_eq_true] at h
 obtain ⟨⟨⟨⟨h1, h2⟩, h3⟩, h4⟩, h5⟩ := h
 cases ho : ops[i]? with
 | none => rw [ho] at h5; simp at h5
 | some o =>
  rw [ho] at h5
  simp at h5
  exact ⟨o, rfl, h5, h1, h2, h3, h4⟩
theorem wpAnyU_one {S0 S : World → Prop} {s : Nat} (i : Nat) (d : Option Tmp) (v : Value) {fuel : Nat} {listed : Array Bool} {a : Act} (hs : Region.noSelect ops = true)
  (hb : mayB md ops s i d listed = true) (hQ : ∀ c (a : Act) t v w, Q (.panic c) (a.put (some t) v) w → Q (.panic c) a w) (hc : Cls S0 S) (hy : ∀ o, ops[i]? = some o → EffS P ops S0 o v a)
  (h : wpAnyU P md ops Q S0 s fuel (listed.setIfInBounds i true) (a.put d v) S) : wpAnyU P md ops Q S0 s (fuel + 1) listed a S := by
 obtain ⟨o, ho, rfl, h1, h2, h3, h4⟩ := mayB_spec hb
 refine wpAnyU_take ho hs h1 h2 h3 h4 (fun c a w => ?_) hc (hy o ho) h
 cases o.dst with
 | some t => exact hQ c a t v w
 | none => exact fun h => h
theorem EffS.of_run {S0 : World → Prop} {i : Nat} {o : Oper} {v : Value} {a : Act} (w0 : World) (ho : ops[i]? = some o) (h : runOf P ops i a = fun w => .ok (.value v) w) : EffS P ops S0 o v a := by
 unfold runOf at h
 rw [ho] at h
 simp only at h
 split at h
 ·
  rename_i hw
  exact .inl ⟨hw, fun w _ => EffR.same (congrFun h w)⟩
 ·
  rename_i hw
  refine .inr ⟨by simpa using hw, ?_⟩
  have := congrFun h w0
  simp only [Result.ok.injEq, Next.value.injEq, and_true] at this
  exact this.symm
theorem wpAnyU_many {S0 S : World → Prop} {s : Nat} (hs : Region.noSelect ops = true) (hQ : ∀ c (a : Act) t v w, Q (.panic c) (a.put (some t) v) w → Q (.panic c) a w) (hc : Cls S0 S) (w0 : World) :
  ∀ (l : List (Nat × Option Tmp × Value)) {fuel : Nat} {listed : Array Bool} {a : Act}, mayAll md ops s l listed = true → runsOf P ops l a = wantsOf l →
   wpAnyU P md ops Q S0 s fuel (markAll l listed) (putAll l a) S → wpAnyU P md ops Q S0 s (fuel + l.length) listed a S
 | [], fuel, listed, a, _, _, h => h
 | (i, d, v) :: l, fuel, listed, a, hm, hr, h => by
  unfold mayAll at hm
  rw [Bool.and_eq_true] at hm
  unfold runsOf wantsOf at hr
  have h1 := List.cons.inj hr
  exact wpAnyU_one i d v hs hm.1 hQ hc (fun o ho => EffS.of_run w0 ho h1.1) (wpAnyU_many hs hQ hc w0 l hm.2 h1.2 h)
theorem wpAnyU_p {S0 S : World → Prop} {s k : Nat} (w0 : World) (l : List (Nat × Option Tmp × Value)) {fuel : Nat} {listed : Array Bool} {a : Act} (hk : l.length = k) (hs : Region.noSelect ops = true) (hm : mayAll md ops s l listed = true) (hr : runsOf P ops l a = wantsOf l)
  (hQ : ∀ c (a : Act) t v w, Q (.panic c) (a.put (some t) v) w → Q (.panic c) a w) (hc : Cls S0 S) (h : wpAnyU P md ops Q S0 s fuel (markAll l listed) (putAll l a) S) : wpAnyU P md ops Q S0 s (fuel + k) listed a S := by
 subst hk
 exact wpAnyU_many hs hQ hc w0 l hm hr h
def loadOf (ops : Array Oper) (i : Nat) (a : Act) : Option (TypeId × Value × Bool) := (ops[i]?).bind fun o => match o.op with | .load t x => some (t, a.eval x, Region.wanted o (yielded ops a.tmps)) | _ => none
theorem loadOf_spec {i : Nat} {a : Act} {o : Oper} {t : TypeId} {p : Value} {b : Bool} (ho : ops[i]? = some o) (h : loadOf ops i a = some (t, p, b)) : ∃ x, o.op = .load t x ∧ a.eval x = p ∧ Region.wanted o (yielded ops a.tmps) = b := by
 unfold loadOf at h
 rw [ho] at h
 simp only [Option.bind_some] at h
 split at h
 ·
  rename_i t' x' heq
  simp only [Option.some.injEq, Prod.mk.injEq] at h
  obtain ⟨rfl, rfl, rfl⟩ := h
  exact ⟨x', heq, rfl, rfl⟩
 ·
  cases h
theorem run_loadVar_one (w : World) (p : Addr) (ty : TypeId) (v : Value) (d : TypeDesc) (hc : w.cell? p = some v) (hu : P.underlying ty = some d) (hd : d.isRow = false) : (loadVar ty p).run P w = .ok v w := by
 have hagg : (isAgg ty).run P w = .ok false w := by
  unfold isAgg
  rw [Sem.run_bind, run_underlying hu w]
  cases d <;> simp_all
 simp [loadVar, Sem.run_bind, hagg, hc]
theorem wpAnyU_l {S0 S : World → Prop} {s : Nat} (i : Nat) (d : Option Tmp) (v : Value) {t : TypeId} {p : Addr} {fuel : Nat} {listed : Array Bool} {a : Act} (dd : TypeDesc) (hs : Region.noSelect ops = true)
  (hb : mayB md ops s i d listed = true) (hl : loadOf ops i a = some (t, .pointer (some p), true)) (hu : P.underlying t = some dd) (hd : dd.isRow = false) (hQ : ∀ c (a : Act) t v w, Q (.panic c) (a.put (some t) v) w → Q (.panic c) a w) (hc : Cls S0 S)
  (hcell : ∀ w, S0 w → w.cell? p = some v)
  (h : wpAnyU P md ops Q S0 s fuel (listed.setIfInBounds i true) (a.put d v) S) : wpAnyU P md ops Q S0 s (fuel + 1) listed a S :=
 wpAnyU_one i d v hs hb hQ hc (fun o ho => by
  obtain ⟨x, h1, h2, h3⟩ := loadOf_spec ho hl
  refine .inl ⟨h3, fun w hw => EffR.same ?_⟩
  unfold execOp
  simp only [h1, h2, Instr.loadAt, Instr.sureAddr, Sem.run_bind, Sem.run_pure, Result.andThen_ok, run_loadVar_one w p t v dd (hcell w hw) hu hd]) h
end
section
variable {P : Program} {ops : Array Oper} {Q : Exit → Act → World → Prop} {md : Region.Mode} {S0 S : World → Prop} {s fuel : Nat} {listed : Array Bool} {a : Act}
theorem uP (k : Nat) (l : List (Nat × Option Tmp × Value)) (hc : Cls S0 S) (h : wpAnyU P md ops Q S0 s fuel (markAll l listed) (putAll l a) S) (hk : l.length = k := by rfl) (hs : Region.noSelect ops = true := by kernel_rfl) (hm : mayAll md ops s l listed = true := by kernel_rfl)
  (hr : runsOf P ops l a = wantsOf l := by kernel_rfl) (hQ : ∀ c (a : Act) t v w, Q (.panic c) (a.put (some t) v) w → Q (.panic c) a w := by exact fun _ _ _ _ _ h => h) : wpAnyU P md ops Q S0 s (fuel + k) listed a S :=
 wpAnyU_p default l hk hs hm hr hQ hc h
def loadQ (P : Program) (ops : Array Oper) (i : Nat) (a : Act) : Option (Value × Bool) :=
 (ops[i]?).bind fun o => match o.op with | .load t x => (match P.underlying t with | some d => if d.isRow = true then none else some (a.eval x, Region.wanted o (yielded ops a.tmps)) | none => none) | _ => none
theorem loadQ_spec {i : Nat} {p : Value} {b : Bool} (h : loadQ P ops i a = some (p, b)) : ∃ t d, loadOf ops i a = some (t, p, b) ∧ P.underlying t = some d ∧ d.isRow = false := by
 unfold loadQ at h
 unfold loadOf
 cases ho : ops[i]? with
 | none => rw [ho] at h; cases h
 | some o =>
  rw [ho] at h
  simp only [Option.bind_some] at h ⊢
  split at h
  ·
   rename_i t x heq
   split at h
   ·
    rename_i d hd
    split at h
    ·
     cases h
    ·
     rename_i hrow
     simp only [Option.some.injEq, Prod.mk.injEq] at h
     obtain ⟨rfl, rfl⟩ := h
     exact ⟨t, d, by first | rfl | rw [heq], hd, by simpa using hrow⟩
   ·
    cases h
  ·
   cases h
theorem uL (i : Nat) (d : Option Tmp) (v : Value) (hc : Cls S0 S) {p : Addr} (hcell : ∀ w, S0 w → w.cell? p = some v) (h : wpAnyU P md ops Q S0 s fuel (listed.setIfInBounds i true) (a.put d v) S) (hs : Region.noSelect ops = true := by kernel_rfl) (hb : mayB md ops s i d listed = true := by kernel_rfl)
  (hl : loadQ P ops i a = some (.pointer (some p), true) := by kernel_rfl) (hQ : ∀ c (a : Act) t v w, Q (.panic c) (a.put (some t) v) w → Q (.panic c) a w := by exact fun _ _ _ _ _ h => h) : wpAnyU P md ops Q S0 s (fuel + 1) listed a S := by
 obtain ⟨t, dd, h1, h2, h3⟩ := loadQ_spec hl
 exact wpAnyU_l i d v dd hs hb h1 h2 h3 hQ hc hcell h
theorem uO (i : Nat) (d : Option Tmp) (v : Value) (hc : Cls S0 S) (hy : ∀ o, ops[i]? = some o → EffS P ops S0 o v a) (h : wpAnyU P md ops Q S0 s fuel (listed.setIfInBounds i true) (a.put d v) S) (hs : Region.noSelect ops = true := by kernel_rfl) (hb : mayB md ops s i d listed = true := by kernel_rfl)
  (hQ : ∀ c (a : Act) t v w, Q (.panic c) (a.put (some t) v) w → Q (.panic c) a w := by exact fun _ _ _ _ _ h => h) : wpAnyU P md ops Q S0 s (fuel + 1) listed a S := wpAnyU_one i d v hs hb hQ hc hy h
theorem uG (i : Nat) (d : Option Tmp) (v : Value) (hc : Cls S0 S) (h : wpAnyU P md ops Q S0 s fuel (listed.setIfInBounds i true) (a.put d v) S) (hs : Region.noSelect ops = true := by kernel_rfl) (hb : mayB md ops s i d listed = true := by kernel_rfl)
  (hQ : ∀ c (a : Act) t v w, Q (.panic c) (a.put (some t) v) w → Q (.panic c) a w := by exact fun _ _ _ _ _ h => h) (hy : ∀ o, ops[i]? = some o → EffS P ops S0 o v a := by intro _ ho; cases ho; exact .inl ⟨rfl, fun w hSw => EffR.same (by (try simp only [putAll, Act.put, zA, zB, zC]); go_simp)⟩) : wpAnyU P md ops Q S0 s (fuel + 1) listed a S := wpAnyU_one i d v hs hb hQ hc hy h
theorem drop_get {i : Nat} {o : Oper} {r : List Oper} (h : ops.toList.drop i = o :: r) : ops[i]? = some o := by
 have h1 := congrArg List.head? h
 rw [List.head?_drop] at h1
 simpa using h1
theorem uD {i : Nat} {o : Oper} {r : List Oper} {rs : List Nat} (ho : ops.toList.drop i = o :: r)
  (h : ∀ w, S w → ∀ K' : Act → World → Prop, Shut (∀ a w' (S' : World → Prop), Cls S0 S' → S' w' → wpAnyU P md ops Q S0 s fuel (listed.setIfInBounds i true) a S' → K' a w') → if Region.wanted o (yielded ops a.tmps) = true then Oper.wp P o a w K' Q else K' (a.put o.dst undef) w)
  (hs : AllReadyU P md ops Q S0 s fuel listed a S rs) : AllReadyU P md ops Q S0 s fuel listed a S (i :: rs) := AllReadyU.cons (drop_get ho) h hs
theorem uS (i : Nat) {o : Oper} {r : List Oper} (ho : ops.toList.drop i = o :: r)
  (h : ∀ w, S w → ∀ K' : Act → World → Prop, Shut (∀ a w' (S' : World → Prop), Cls S0 S' → S' w' → wpAnyU P md ops Q S0 s fuel (listed.setIfInBounds i true) a S' → K' a w') → if Region.wanted o (yielded ops a.tmps) = true then Oper.wp P o a w K' Q else K' (a.put o.dst undef) w)
  (hr : Region.ready md ops listed = [i] := by kernel_rfl) : wpAnyU P md ops Q S0 s (fuel + 1) listed a S := wpAnyU_ready hr (by simp) (AllReadyU.cons (drop_get ho) h AllReadyU.nil)
theorem uZ {o : Oper} {r : List Oper} (ho : ops.toList.drop s = o :: r)
  (h : ∀ w, S w → ∀ K' : Act → World → Prop, Shut (∀ a w', Q .normal a w' → K' a w') → if Region.wanted o (yielded ops a.tmps) = true then Oper.wp P o a w K' Q else K' (a.put o.dst undef) w)
  (hr : Region.ready md ops listed = [s] := by kernel_rfl) (hz : Region.ready md ops (listed.setIfInBounds s true) = [] := by kernel_rfl) : wpAnyU P md ops Q S0 s (fuel + 1) listed a S := wpAnyU_last hr hz (drop_get ho) h
theorem zq : ((∀ (l : List Value) (i : Nat) (a : Value), l.toArray.setIfInBounds i a = (l.set i a).toArray) ∧ (∀ (x y : Value) (l : List Value), (x :: l).set 0 y = y :: l) ∧ ∀ (x y : Value) (l : List Value) (n : Nat), (x :: l).set (n + 1) y = x :: l.set n y) ∧ ((∀ (l : List Bool) (i : Nat) (a : Bool), l.toArray.setIfInBounds i a = (l.set i a).toArray) ∧ (∀ (x y : Bool) (l : List Bool), (x :: l).set 0 y = y :: l) ∧ ∀ (x y : Bool) (l : List Bool) (n : Nat), (x :: l).set (n + 1) y = x :: l.set n y) ∧
  ((∀ (a : Act) (t : Tmp) (v : Value), a.put (some t) v = { a with tmps := a.tmps.setIfInBounds t v }) ∧ ∀ (a : Act) (v : Value), a.put none v = a) ∧
  ((∀ (a : Act), putAll [] a = a) ∧ ∀ (i : Nat) (d : Option Tmp) (v : Value) (l : List (Nat × Option Tmp × Value)) (a : Act), putAll ((i, d, v) :: l) a = putAll l (a.put d v)) ∧
  (∀ (b : Array Bool), markAll [] b = b) ∧ ∀ (i : Nat) (d : Option Tmp) (v : Value) (l : List (Nat × Option Tmp × Value)) (b : Array Bool), markAll ((i, d, v) :: l) b = markAll l (b.setIfInBounds i true) :=
 ⟨⟨fun l i a => by simp, fun _ _ _ => rfl, fun _ _ _ _ => rfl⟩, ⟨fun l i a => by simp, fun _ _ _ => rfl, fun _ _ _ _ => rfl⟩, ⟨fun _ _ _ => rfl, fun _ _ => rfl⟩, ⟨fun _ => rfl, fun _ _ _ _ _ => rfl⟩, fun _ => rfl, fun _ _ _ _ _ => rfl⟩
end
end Cam
