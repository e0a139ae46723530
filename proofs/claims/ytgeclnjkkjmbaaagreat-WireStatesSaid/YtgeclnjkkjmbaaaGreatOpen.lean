import Derived.WalkKit
import Derived.ProofKit
import Derived.OpenShut
import Derived.ChangeOld
import Derived.Below
import Derived.SizedLaws
import Derived.Test.YtgeclnjkkjmbaaaGreatMem
/- From the form's reading of arguments to the words of memory (Mem); the frame of a law's proof, once for all laws. No program in sight. -/
namespace Cam
open Go Go.RowKit Go.ChangeShapes Go.WideShapes Go.ChangeAt
set_option linter.unusedVariables false
set_option linter.unusedSimpArgs false
set_option maxHeartbeats 200000
def Opens (P : Program) (t : TypeId) (Q : World → List Value → Prop) : Prop :=
 ∀ (H : Type) (enc : TypeId × Value → H) (w : World) (fuel : Nat) (cs : List Value) (d : DataW H) (ps : List MemPlace),
  DataW.trod enc P w 0 (fun _ => true) true fuel t cs = some (d, ps) → (∀ n ∈ DataW.weights P t d, n ≤ reachBytes) → Q w cs
theorem Opens.mono {P : Program} {t : TypeId} {Q R : World → List Value → Prop} (h : Opens P t Q) (hr : ∀ w cs, Q w cs → R w cs) : Opens P t R :=
 fun H enc w fuel cs d ps h1 h2 => hr _ _ (h H enc w fuel cs d ps h1 h2)
theorem Opens.int {P : Program} {t : TypeId} {k : IntKind} (hu : P.underlying t = some (.int k)) : Opens P t (fun _ cs => ∃ n, cs = [.int k n] ∧ (Lit.int k n).wf = true) := by
 intro H enc w fuel cs d ps h _
 obtain ⟨n, h1, _, h2⟩ := DataW.trod_int hu h
 exact ⟨n, h1, h2⟩
theorem Opens.bool {P : Program} {t : TypeId} (hu : P.underlying t = some .bool) : Opens P t (fun _ cs => ∃ b, cs = [.bool b]) := by
 intro H enc w fuel cs d ps h _
 obtain ⟨b, h1, _⟩ := DataW.trod_bool hu h
 exact ⟨b, h1⟩
theorem weightsAll_mem {H : Type} {P : Program} {e : TypeId} {l : List (DataW H)} {d : DataW H} (hd : d ∈ l) {n : Nat} (hn : n ∈ d.weights P e) : n ∈ DataW.weightsAll P e l := by
 induction l with
 | nil => cases hd
 | cons x l ih =>
  simp only [DataW.weightsAll, List.mem_append]
  rcases List.mem_cons.1 hd with rfl | h
  ·
   exact Or.inl hn
  ·
   exact Or.inr (ih h)
theorem flatten_getElem? {α : Type} {m : Nat} : ∀ (css : List (List α)), (∀ c ∈ css, c.length = m) → ∀ (i : Nat) (u : α), css.flatten[i]? = some u → 0 < m ∧ ∃ c, css[i / m]? = some c ∧ c[i % m]? = some u
 | [], _, i, u, h => by simp at h
 | c :: css, hl, i, u, h => by
  have hc := hl c (by simp)
  rw [List.flatten_cons] at h
  by_cases hi : i < m
  ·
   rw [List.getElem?_append_left (by omega)] at h
   have : i / m = 0 := Nat.div_eq_of_lt hi
   refine ⟨by omega, c, by simp [this], ?_⟩
   rw [Nat.mod_eq_of_lt hi]
   exact h
  ·
   rw [List.getElem?_append_right (by omega), hc] at h
   obtain ⟨hm, c', h1, h2⟩ := flatten_getElem? css (fun c hc => hl c (by simp [hc])) (i - m) u h
   refine ⟨hm, c', ?_, ?_⟩
   ·
    have : i / m = (i - m) / m + 1 := by rw [← Nat.add_div_right _ hm]; congr 1; omega
    rw [this]
    simpa using h1
   ·
    have : i % m = (i - m) % m := by rw [← Nat.add_mod_right (i - m)]; congr 1; omega
    rw [this]
    exact h2
theorem Opens.slice {P : Program} {t e size bytes : Nat} {Q : World → List Value → Prop} (hu : P.underlying t = some (.slice e)) (hs : P.cellsOf e = size) (hb : P.bytesOf e = bytes) (E : Opens P e Q) :
  Opens P t (fun w cs => ∃ (v : Value) (css : List (List Value)), cs = [v] ∧ css.length * bytes ≤ 140737488351232 ∧ Sl w v size css.length css.flatten ∧ ∀ c ∈ css, c.length = size ∧ Q w c) := by
 intro H enc w fuel cs d ps h hw
 rcases DataW.trod_slice hu h with ⟨rfl, hx⟩ | ⟨a, len, cap, elems, rest, n, _, rfl, hx, _, hl, hm, hlen, hel, _⟩
 ·
  exact ⟨_, [], rfl, by simp, Sl.nil w size, fun c hc => by cases hc⟩
 ·
  simp only [Prod.mk.injEq] at hx
  obtain ⟨rfl, _⟩ := hx
  have each : ∀ i, i < len → ∃ c : List Value, w.cells? 0 (a.add (i * size)) size = some c ∧ c.length = size ∧ (∀ j u, c[j]? = some u → w.cell? ((a.add (i * size)).add j) = some u) ∧ Q w c := by
   intro i hi
   have h1 := hel i hi
   rw [hs, List.getElem?_eq_getElem (by omega)] at h1
   obtain ⟨c, hc, h2⟩ := Option.bind_eq_some_iff.1 h1
   have h3 := World.cells?_some hc
   refine ⟨c, hc, h3.2.1, fun j u hu => by
    have hj := (List.getElem?_eq_some_iff.1 hu).1
    rw [h3.2.2 j (by omega)]
    exact hu, ?_⟩
   refine E H enc w n c _ _ h2 (fun x hx => hw x ?_)
   simp only [DataW.weights, hu]
   refine List.mem_cons_of_mem _ (List.mem_append_left _ (weightsAll_mem (d := (elems[i]).1) ?_ hx))
   exact List.mem_map.2 ⟨_, List.getElem_mem _, rfl⟩
  obtain ⟨f, hf⟩ : ∃ f : Nat → List Value, ∀ i, i < len → (f i).length = size ∧ (∀ j u, (f i)[j]? = some u → w.cell? ((a.add (i * size)).add j) = some u) ∧ Q w (f i) := by
   refine ⟨fun i => if h : i < len then Classical.choose (each i h) else [], fun i hi => ?_⟩
   simp only [hi, dif_pos]
   have := Classical.choose_spec (each i hi)
   exact ⟨this.2.1, this.2.2.1, this.2.2.2⟩
  refine ⟨_, (List.range len).map f, rfl, ?_, ⟨?_, some a, cap, by simp, by simpa using hl, hm, (fun h => by cases h), ?_⟩, ?_⟩
  ·
   have := hw ((elems.length + rest.length) * P.bytesOf e) (by simp [DataW.weights, hu])
   rw [hb, hlen] at this
   simp only [List.length_map, List.length_range]
   refine Nat.le_trans (Nat.mul_le_mul_right _ (Nat.le_add_right _ _)) (Nat.le_trans this (by simp [reachBytes]))
  ·
   rw [List.length_flatten, List.map_map]
   have : ((List.range len).map (List.length ∘ f)) = List.replicate len size := by
    rw [List.eq_replicate_iff]
    refine ⟨by simp, fun x hx => ?_⟩
    obtain ⟨i, hi, rfl⟩ := List.mem_map.1 hx
    exact (hf i (by simpa using hi)).1
   rw [this]
   simp
  ·
   intro ad had i u hu
   cases had
   have hlens : ∀ c ∈ (List.range len).map f, c.length = size := by
    intro c hc
    obtain ⟨k, hk, rfl⟩ := List.mem_map.1 hc
    exact (hf k (by simpa using hk)).1
   obtain ⟨hm0, c, h1, h2⟩ := flatten_getElem? _ hlens i u hu
   rw [List.getElem?_map] at h1
   obtain ⟨k, hk, rfl⟩ := Option.map_eq_some_iff.1 h1
   have hk2 : i / size = k ∧ k < len := by
    have := List.getElem?_eq_some_iff.1 hk
    obtain ⟨hlt, he⟩ := this
    simp at hlt he
    omega
   obtain ⟨hk3, hk4⟩ := hk2
   have h4 := (hf k hk4).2.1 _ _ h2
   have e : (a.add (k * size)).add (i % size) = a.add i := by
    have hi : k * size + i % size = i := by rw [← hk3, Nat.mul_comm]; exact Nat.div_add_mod i size
    by_cases hz : k * size = 0
    ·
     rw [hz] at hi ⊢
     rw [show i % size = i by omega]
     simp [Addr.add]
    ·
     by_cases hj : i % size = 0
     ·
      rw [hj] at hi ⊢
      rw [show a.add i = a.add (k * size) by rw [← hi]; rfl]
      simp [Addr.add]
     ·
      simp [Addr.add, hz, hj, show ¬ i = 0 by omega, Nat.add_assoc, hi]
   rw [← e]
   exact h4
  ·
   intro c hc
   obtain ⟨k, hk, rfl⟩ := List.mem_map.1 hc
   have := hf k (by simpa using hk)
   exact ⟨this.1, this.2.2⟩
/-! ### slices of bytes, of numbers, of bools; slices of slices of bytes -/
theorem u8_of_wf {n : Int} (h : (Lit.int .u8 n).wf = true) : ∃ c : UInt8, n = (c.toNat : Int) := by
 have hx : 0 ≤ n ∧ n ≤ 255 := by simpa [Lit.wf, IntKind.min, IntKind.max, IntKind.signed, IntKind.bits] using h
 refine ⟨UInt8.ofNat n.toNat, ?_⟩
 rw [UInt8.toNat_ofNat']
 omega
theorem ints_of_wf {k : IntKind} : ∀ {css : List (List Value)}, (∀ c ∈ css, ∃ n, c = [.int k n] ∧ (Lit.int k n).wf = true) → ∃ l : List Int, css = l.map (fun n => [.int k n]) ∧ ∀ n ∈ l, (Lit.int k n).wf = true
 | [], _ => ⟨[], rfl, by simp⟩
 | c :: css, h => by
  obtain ⟨n, rfl, hn⟩ := h c (by simp)
  obtain ⟨l, rfl, hl⟩ := ints_of_wf (css := css) (fun c hc => h c (by simp [hc]))
  exact ⟨n :: l, rfl, by simpa [hn] using hl⟩
theorem flatten_single {α β : Type} (f : α → β) (l : List α) : (l.map fun n => [f n]).flatten = l.map f := by
 induction l with
 | nil => rfl
 | cons a l ih => simp [ih]
theorem Opens.ints {P : Program} {t e : Nat} {k : IntKind} {bytes : Nat} (hu : P.underlying t = some (.slice e)) (he : P.underlying e = some (.int k)) (hs : P.cellsOf e = 1) (hb : P.bytesOf e = bytes) :
  Opens P t (fun w cs => ∃ (v : Value) (l : List Int), cs = [v] ∧ l.length * bytes ≤ 140737488351232 ∧ Sl w v 1 l.length (l.map (.int k)) ∧ ∀ n ∈ l, (Lit.int k n).wf = true) := by
 refine (Opens.slice hu hs hb (Opens.int he)).mono ?_
 rintro w cs ⟨v, css, rfl, h1, h2, h3⟩
 obtain ⟨l, rfl, hl⟩ := ints_of_wf (fun c hc => (h3 c hc).2)
 refine ⟨v, l, rfl, by simpa using h1, ?_, hl⟩
 rw [flatten_single] at h2
 simpa using h2
theorem bytes_of_wf : ∀ {l : List Int}, (∀ n ∈ l, (Lit.int .u8 n).wf = true) → ∃ b : List UInt8, l = b.map fun c => (c.toNat : Int)
 | [], _ => ⟨[], rfl⟩
 | n :: l, h => by
  obtain ⟨c, rfl⟩ := u8_of_wf (h n (by simp))
  obtain ⟨b, rfl⟩ := bytes_of_wf (l := l) (fun n hn => h n (by simp [hn]))
  exact ⟨c :: b, rfl⟩
theorem Opens.bytes {P : Program} {t e : Nat} (hu : P.underlying t = some (.slice e)) (he : P.underlying e = some (.int .u8)) (hs : P.cellsOf e = 1) (hb : P.bytesOf e = 1) :
  Opens P t (fun w cs => ∃ (v : Value) (l : List UInt8), cs = [v] ∧ Bs w v l ∧ l.length ≤ 140737488351232) := by
 refine (Opens.ints hu he hs hb).mono ?_
 rintro w cs ⟨v, l, rfl, h1, h2, h3⟩
 obtain ⟨b, rfl⟩ := bytes_of_wf h3
 refine ⟨v, b, rfl, ?_, by simpa using h1⟩
 unfold Bs
 simpa [Function.comp_def] using h2
theorem bss_of : ∀ {w : World} {css : List (List Value)}, (∀ c ∈ css, ∃ (v : Value) (l : List UInt8), c = [v] ∧ Bs w v l ∧ l.length ≤ 140737488351232) →
  ∃ (vs : List Value) (ls : List (List UInt8)), css = vs.map (fun v => [v]) ∧ vs.length = ls.length ∧ (∀ i (h : i < ls.length) (h' : i < vs.length), Bs w vs[i] ls[i]) ∧ ∀ l ∈ ls, l.length ≤ 140737488351232
 | w, [], _ => ⟨[], [], rfl, rfl, fun i h => by simp at h, by simp⟩
 | w, c :: css, h => by
  obtain ⟨v, l, rfl, h1, h2⟩ := h c (by simp)
  obtain ⟨vs, ls, rfl, h3, h4, h5⟩ := bss_of (w := w) (css := css) (fun c hc => h c (by simp [hc]))
  refine ⟨v :: vs, l :: ls, rfl, by simp [h3], ?_, ?_⟩
  ·
   intro i hi hi'
   match i, hi with
   | 0, _ => exact h1
   | i + 1, hi => exact h4 i (by simpa using hi) (by simpa using hi')
  ·
   intro x hx
   rcases List.mem_cons.1 hx with rfl | hx
   ·
    exact h2
   ·
    exact h5 x hx
theorem Opens.rows {P : Program} {t e q bytes : Nat} (hu : P.underlying t = some (.slice e)) (he : P.underlying e = some (.slice q)) (hq : P.underlying q = some (.int .u8)) (hs : P.cellsOf e = 1) (hb : P.bytesOf e = bytes) (hs' : P.cellsOf q = 1) (hb' : P.bytesOf q = 1) :
  Opens P t (fun w cs => ∃ (v : Value) (ls : List (List UInt8)), cs = [v] ∧ ls.length * bytes ≤ 140737488351232 ∧ Bss w v ls ∧ ∀ l ∈ ls, l.length ≤ 140737488351232) := by
 refine (Opens.slice hu hs hb (Opens.bytes he hq hs' hb')).mono ?_
 rintro w cs ⟨v, css, rfl, h1, h2, h3⟩
 obtain ⟨vs, ls, rfl, h4, h5, h6⟩ := bss_of (fun c hc => (h3 c hc).2)
 have e : (vs.map fun v => [v]).flatten = vs := by simpa using flatten_single (fun v : Value => v) vs
 rw [e] at h2
 simp only [List.length_map, h4] at h1 h2
 exact ⟨v, ls, rfl, h1, ⟨vs, h4, h2, h5⟩, h6⟩
/-! ### the frame of a law's proof -/
def ArgOk (P : Program) (W : World) (t : TypeId) (v : Value) : Prop :=
 (∃ base, Value.okWide P W .any base t v) ∧ ∀ Q, Opens P t Q → Q W v.cells.toList
theorem trodAll_below {H : Type} {enc : TypeId × Value → H} {P : Program} (hl : laidOutB P = true) {W W' : World} (hb : Below W.heap.size W W') :
  ∀ {ts : List TypeId} {vs : List Value} {ds : List (DataW H)} {ps : List MemPlace}, (∀ t ∈ ts, P.readableRec t = true ∧ t < P.types.size) →
   DataW.TrodAll enc P W 0 (fun _ => true) true ts vs ds ps → DataW.TrodAll enc P W' 0 (fun b => decide (b < W.heap.size)) true ts vs ds ps
 | [], [], [], ps, _, h => h
 | t :: ts, v :: vs, d :: ds, ps, hr, h => by
  obtain ⟨p, q, h1, h2, rfl⟩ := h
  have lt : ∀ x ∈ p, x.block < W.heap.size := by
   obtain ⟨m, hm⟩ := h1
   exact DataW.trod_lt m _ _ _ hm
  exact ⟨p, q, Below.trod hl (hr t (by simp)).1 (hr t (by simp)).2 h1 hb lt, trodAll_below hl hb (fun t ht => hr t (by simp [ht])) h2, rfl⟩
 | [], _ :: _, _, _, _, h => h.elim
 | [], [], _ :: _, _, _, h => h.elim
 | _ :: _, [], _, _, _, h => h.elim
 | _ :: _, _ :: _, [], _, _, h => h.elim
theorem trodAll_get {H : Type} {enc : TypeId × Value → H} {P : Program} {W : World} :
  ∀ {ts : List TypeId} {vs : List Value} {ds : List (DataW H)} {ps : List MemPlace}, DataW.TrodAll enc P W 0 (fun _ => true) true ts vs ds ps →
   vs.length = ts.length ∧ ds.length = ts.length ∧ ∀ (j : Nat) t v, ts[j]? = some t → vs[j]? = some v → ∃ d p, ds[j]? = some d ∧ DataW.Trod enc P W 0 (fun _ => true) true t v d p
 | [], [], [], ps, _ => ⟨rfl, rfl, fun j t v h => by simp at h⟩
 | t :: ts, v :: vs, d :: ds, ps, h => by
  obtain ⟨p, q, h1, h2, rfl⟩ := h
  obtain ⟨e1, e2, h3⟩ := trodAll_get h2
  refine ⟨by simp [e1], by simp [e2], fun j t' v' ht hv => ?_⟩
  cases j with
  | zero =>
   simp at ht hv
   subst ht hv
   exact ⟨d, p, rfl, h1⟩
  | succ j =>
   simp at ht hv
   obtain ⟨d', p', h4, h5⟩ := h3 j t' v' ht hv
   exact ⟨d', p', by simpa using h4, h5⟩
 | [], _ :: _, _, _, h => h.elim
 | [], [], _ :: _, _, h => h.elim
 | _ :: _, [], _, _, h => h.elim
 | _ :: _, _ :: _, [], _, h => h.elim
theorem law_lifted {C : Checked} {os : Os} {f : FuncId} {fn : Func} {s : ChangeSpec} {H : Type} {enc : TypeId × Value → H} {tb : TypeId}
  (own : ownKnob C.prog.godebug = none) (started : os.Started) (noInit : C.prog.inits.idxOf? f = none) (hfn : C.prog.funcs[f]? = some fn)
  (laid : laidOutB C.prog = true) (hread : ∀ t ∈ fn.params.toList, C.prog.readableRec t = true ∧ t < C.prog.types.size)
  (hvars : s.vars = []) (hres : fn.resultTypes = #[tb]) (htb : C.prog.underlying tb = some .bool)
  (hspec : ∀ ds : List (DataW H), ds.length = fn.params.size → s.fn H (ds ++ []) = { results := [.lit (.bool true)], args := ds })
  (witness : ∃ (w : World) (tape : Tape) (i : Input), w.os = os ∧ (w.forCall tape i).Shaped C.prog ∧ i.vars = [] ∧ Input.okWide C.prog (w.forCall tape i) .any w.heap.size f i ∧
   s.pre6 enc C.prog fn [] false (w.forCall tape i).memory i.args ∧ Assume.holds {} C.prog (lone (Frame.enter C.prog f i.args .normal) [] (w.forCall tape i)))
  (walk : ∀ (W : World) (args : Array Value), args.size = fn.params.size → (∀ (j : Nat) t v, fn.params[j]? = some t → args[j]? = some v → ArgOk C.prog W t v) →
   Calls C.prog f args W fun e w' => e = .returned (.bool true) ∧ Below W.heap.size W w') :
  ReturnsInHanded {} C os f .any (s.pre6 enc C.prog fn [] false) (s.post enc C.prog fn false true false false) := by
 refine returnsInHanded_of_change_sized (C := C) own started noInit hfn witness ?_
 intro W base args ds gs before hval hW _ hsz _
 have hW' := hW
 obtain ⟨p, q, hA, hV, rfl, hfz, hnd⟩ := hW
 rw [hvars] at hV
 obtain ⟨rfl, rfl⟩ := trodVars_none hV
 obtain ⟨e1, e2, hget⟩ := trodAll_get hA
 have hargs : ∀ (j : Nat) t v, fn.params[j]? = some t → args[j]? = some v → ArgOk C.prog W t v := by
  intro j t v ht hv
  refine ⟨⟨base, hval j t v ht hv⟩, fun Q hQ => ?_⟩
  have ht' : fn.params.toList[j]? = some t := by simpa using ht
  obtain ⟨d, p', hd, fuel, hf⟩ := hget j t v ht' (by simpa using hv)
  refine hQ H enc W fuel _ d p' hf (fun n hn => ?_)
  have hlt : j < fn.params.toList.length := (List.getElem?_eq_some_iff.1 ht').1
  have := List.all_eq_true.1 hsz _ (DataW.weights_mem_each (ts := fn.params.toList ++ s.plain.varTypes C.prog) (ds := ds ++ []) (j := j) (by rw [List.getElem?_append_left hlt]; exact ht') (by rw [List.append_nil]; exact hd) n hn)
  simpa using this
 refine (walk W args (by simpa using e1) hargs).mono fun e W' ⟨he, bel⟩ => ?_
 subst he
 have hsp := hspec ds (by simpa using e2)
 refine ⟨_, rfl, ds, [], p ++ [], [], p, [], hW', ?_, ?_, ?_, bel.frame _, fun h => by cases h⟩
 ·
  rw [hsp, hres]
  exact trodAll_mk1 (shut_bool htb _)
 ·
  rw [hsp]
  exact trodAll_below laid bel hread hA
 ·
  rw [hsp, hvars]
  rfl
end Cam
namespace Cam
open Go Go.RowKit Go.ChangeShapes Go.WideShapes Go.ChangeAt
set_option linter.unusedVariables false
set_option linter.unusedSimpArgs false
set_option maxHeartbeats 200000
theorem ArgOk.int {P : Program} {W : World} {t : TypeId} {v : Value} {k : IntKind} (h : ArgOk P W t v) (hu : P.underlying t = some (.int k)) : ∃ n, v = .int k n ∧ (Lit.int k n).wf = true := by
 obtain ⟨⟨base, hv⟩, ho⟩ := h
 obtain ⟨n, hn, hw⟩ := ho _ (Opens.int hu)
 unfold Value.okWide at hv
 rw [hu] at hv
 cases v <;> simp [Value.cells, Cell.okWide, Cell.ok, hu] at hn hv ⊢
 obtain ⟨rfl, rfl⟩ := hn
 exact ⟨_, ⟨rfl, rfl⟩, hw⟩
theorem ArgOk.single {P : Program} {W : World} {t : TypeId} {v : Value} {e : TypeId} (h : ArgOk P W t v) (hu : P.underlying t = some (.slice e)) : v.cells.toList = [v] := by
 obtain ⟨⟨base, hv⟩, _⟩ := h
 obtain ⟨a, len, cap, rfl⟩ := okWide_slice hu hv
 rfl
theorem ArgOk.bytes {P : Program} {W : World} {t : TypeId} {v : Value} {e : TypeId} (h : ArgOk P W t v) (hu : P.underlying t = some (.slice e)) (he : P.underlying e = some (.int .u8)) (hs : P.cellsOf e = 1) (hb : P.bytesOf e = 1) :
  ∃ l, Bs W v l ∧ l.length ≤ 140737488351232 := by
 have h1 := h.single hu
 obtain ⟨v', l, h2, h3, h4⟩ := h.2 _ (Opens.bytes hu he hs hb)
 rw [h1] at h2
 cases h2
 exact ⟨l, h3, h4⟩
theorem ArgOk.rows {P : Program} {W : World} {t : TypeId} {v : Value} {e q bytes : TypeId} (h : ArgOk P W t v) (hu : P.underlying t = some (.slice e)) (he : P.underlying e = some (.slice q)) (hq : P.underlying q = some (.int .u8)) (hs : P.cellsOf e = 1) (hb : P.bytesOf e = bytes) (hs' : P.cellsOf q = 1) (hb' : P.bytesOf q = 1) :
  ∃ ls, Bss W v ls ∧ ls.length * bytes ≤ 140737488351232 ∧ ∀ l ∈ ls, l.length ≤ 140737488351232 := by
 have h1 := h.single hu
 obtain ⟨v', l, h2, h3, h4, h5⟩ := h.2 _ (Opens.rows hu he hq hs hb hs' hb')
 rw [h1] at h2
 cases h2
 exact ⟨l, h4, h3, h5⟩
theorem ArgOk.ints {P : Program} {W : World} {t : TypeId} {v : Value} {e bytes : TypeId} (h : ArgOk P W t v) (hu : P.underlying t = some (.slice e)) (he : P.underlying e = some (.int .i64)) (hs : P.cellsOf e = 1) (hb : P.bytesOf e = bytes) :
  ∃ l, Is W v l ∧ l.length * bytes ≤ 140737488351232 ∧ ∀ n ∈ l, (Lit.int .i64 n).wf = true := by
 have h1 := h.single hu
 obtain ⟨v', l, h2, h3, h4, h5⟩ := h.2 _ (Opens.ints hu he hs hb)
 rw [h1] at h2
 cases h2
 exact ⟨l, h4, h3, h5⟩
end Cam
namespace Cam
open Go
set_option linter.unusedVariables false
set_option linter.unusedSimpArgs false
set_option maxHeartbeats 200000
theorem i64_of_wf {n : Int} (h : (Lit.int .i64 n).wf = true) : -9223372036854775808 ≤ n ∧ n ≤ 9223372036854775807 := by
 simpa [Lit.wf, IntKind.min, IntKind.max, IntKind.signed, IntKind.bits] using h
end Cam
