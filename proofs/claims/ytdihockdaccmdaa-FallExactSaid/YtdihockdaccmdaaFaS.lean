import Derived.Test.YtdihockdaccmdaaFall
import Derived.Test.YtdihockdaccmdaaNumS
import Derived.Test.YtdihockdaccmdaaMemA
import Derived.Deep.RegionHeld3
/- fall.Sum. -/
namespace Cam
open Go Go.RowKit Go.Proofs

/-- a fall's numbers -/
structure FT where
  cur : Int
  loss : Int
  p0 : Int
  p1 : Int
  p2 : Int
  p3 : Int
  p4 : Int
  r : Int
def FT.vs (f : FT) : List Value := [.int .i64 f.cur, .int .i64 f.loss, .int .i64 f.p0, .int .i64 f.p1, .int .i64 f.p2, .int .i64 f.p3, .int .i64 f.p4, .int .i64 f.r]
def FT.ps (f : FT) : List Int := [f.p0, f.p1, f.p2, f.p3, f.p4]
def fcells : List FT → List Value
  | [] => []
  | f :: l => f.vs ++ fcells l
theorem fcells_length (l : List FT) : (fcells l).length = l.length * 8 := by
  induction l with
  | nil => rfl
  | cons f l ih => simp [fcells, FT.vs, ih]; omega
theorem fcells_at (l : List FT) (i : Nat) (h : i < l.length) (j : Nat) (hj : j < 8) : (fcells l)[i * 8 + j]? = l[i].vs[j]? := by
  induction l generalizing i with
  | nil => simp at h
  | cons f l ih =>
    cases i with
    | zero => rw [fcells, List.getElem?_append_left (by simp [FT.vs]; omega)]; simp
    | succ i =>
      rw [fcells, List.getElem?_append_right (by simp [FT.vs]; omega)]
      simp only [List.getElem_cons_succ]
      rw [← ih i (by simpa using h)]
      congr 1
      simp [FT.vs]
      omega
/-- a slice of falls -/
def Fs (w : World) (v : Value) (l : List FT) : Prop := Sl w v 8 l.length (fcells l)
theorem Fs.shape {w : World} {v : Value} {l : List FT} (h : Fs w v l) : ∃ a cap, v = .slice a l.length cap ∧ l.length ≤ cap ∧ cap ≤ 9223372036854775807 := Sl.shape h
theorem Fs.mono {w w' : World} {v : Value} {l : List FT} (h : Fs w v l) (hb : Below w.heap.size w w') : Fs w' v l := Sl.mono h hb
theorem Fs.at {w : World} {a : Option Addr} {len cap : Nat} {l : List FT} (h : Fs w (.slice a len cap) l) (hp : 0 < l.length) :
    ∃ b off, a = some ⟨b, off, none⟩ ∧ b < w.heap.size ∧ ∀ i (hi : i < l.length) j u, l[i].vs[j]? = some u → w.cell? ⟨b, off + i * 8 + j, none⟩ = some u := by
  obtain ⟨b, off, h1, h2, h3⟩ := Sl.at h (by rw [fcells_length]; omega)
  refine ⟨b, off, h1, h2, fun i hi j u hu => ?_⟩
  have hj : j < 8 := by
    have := (List.getElem?_eq_some_iff.1 hu).1
    simpa [FT.vs] using this
  have h4 := h3 (i * 8 + j) (by rw [fcells_length]; omega)
  have h5 := fcells_at l i hi j hj
  rw [hu] at h5
  rw [Nat.add_assoc, h4]
  exact (List.getElem_eq_iff (by rw [fcells_length]; omega)).2 h5 ▸ rfl

/-- all charges, all rests -/
def chs : List FT → List Int
  | [] => []
  | f :: l => f.ps ++ chs l
def rts : List FT → List Int
  | [] => []
  | f :: l => f.r :: rts l
theorem chs_length (l : List FT) : (chs l).length = l.length * 5 := by
  induction l with
  | nil => rfl
  | cons f l ih => simp [chs, FT.ps, ih]; omega
theorem rts_length (l : List FT) : (rts l).length = l.length := by
  induction l with
  | nil => rfl
  | cons f l ih => simp [rts, ih]
theorem chs_append (l m : List FT) : chs (l ++ m) = chs l ++ chs m := by
  induction l with
  | nil => rfl
  | cons f l ih => simp [chs, ih]
theorem rts_append (l m : List FT) : rts (l ++ m) = rts l ++ rts m := by
  induction l with
  | nil => rfl
  | cons f l ih => simp [rts, ih]
def fsE (l : List FT) : Int := if capsOk (chs l ++ rts l) = true then (if sumE (chs l) = 0 then sumE (rts l) else sumE (chs l)) else 3
def fsC (l : List FT) : Int := if fsE l = 0 then sumI (chs l) else 0
def fsR (l : List FT) : Int := if fsE l = 0 then sumI (rts l) else 0

/-- two slices in blocks of their own -/
def Ap (v v' : Value) : Prop := ∀ k, v.ownBlock = some k → v'.ownBlock ≠ some k
theorem Ap.symm {v v' : Value} (h : Ap v v') : Ap v' v := fun k h1 h2 => h k h2 h1
theorem Ap.nil {v : Value} : Ap (.slice none 0 0) v := fun k h => by cases h
theorem Ap.step {v v1 v' : Value} {H : Nat} (h : Ap v v') (hat : Hid (v1.ownBlock = v.ownBlock ∨ v1.ownBlock = some H)) (hl : ∀ k, v'.ownBlock = some k → k < H) : Ap v1 v' := by
  intro k h1 h2
  rcases hat.out with e | e
  · exact h k (e ▸ h1) h2
  · rw [e] at h1
    cases h1
    exact absurd (hl _ h2) (Nat.lt_irrefl _)
theorem OwnI.grownO {t : TypeId} {w w' : World} {base : Nat} {v : Value} {row : Option Nat} {l : List Int} (h : OwnI t w base v l) (hg : w.grownBy w' row) (hne : ∀ k, v.ownBlock = some k → row ≠ some k) : OwnI t w' base v l :=
  World.ownsRow.kept h hg (by
    cases hv : v.ownBlock with
    | none => exact .inl rfl
    | some k => exact .inr (fun e => hne k hv e.symm))
theorem OwnI.lt {t : TypeId} {w : World} {base : Nat} {v : Value} {l : List Int} (h : OwnI t w base v l) : ∀ k, v.ownBlock = some k → k < w.heap.size := fun k hk => (World.ownsRow.lt h k hk).2
theorem OwnI.ge {t : TypeId} {w : World} {base : Nat} {v : Value} {l : List Int} (h : OwnI t w base v l) : ∀ k, v.ownBlock = some k → base ≤ k := fun k hk => (World.ownsRow.lt h k hk).1
theorem step_append_ints_at {P : Program} {ops : Array Oper} {o : Oper} {a : Act} {w : World} {K : Act → World → Prop} {Q : Exit → Act → World → Prop} {E' : Prop}
    (hg : o.guard = none) (s x : Operand) (t : TypeId) (hop : o.op = Op.call { callee := Callee.builtin Builtin.append, args := #[s, x], argTypes := #[t, t] })
    {e base : Nat} {v vx : Value} {l m : List Int} (E : Elem P t e 1 8) (hs : a.eval s = v) (hx : a.eval x = vx)
    (hown : OwnI e w base v l) (hsrc : Is w vx m) (hlen : (l.length + m.length) * 8 ≤ 140737488355328) (hbase : base ≤ w.heap.size)
    (h : ∀ a' n' cap' w', Hid (n' = l.length + m.length) → OwnI e w' base (.slice a' n' cap') (l ++ m) → w.grownBy w' v.ownBlock →
      Hid ((Value.slice a' n' cap').ownBlock = v.ownBlock ∨ (Value.slice a' n' cap').ownBlock = some w.heap.size) → K (a.put o.dst (.slice a' n' cap')) w') :
    if Region.wanted o (yielded ops a.tmps) = true then Oper.wp P o a w K Q else E' := by
  have hw : Region.wanted o (yielded ops a.tmps) = true := by simp [Region.wanted, hg]
  rw [if_pos hw]
  obtain ⟨a', cap', w', hr, h2, h3, h4⟩ := run_append_sl_at (P := P) (ty := o.type) w E hown hsrc (is_oneCell m) (by unfold maxLen; omega) (by omega) hbase
  unfold Oper.wp execOp
  simp only [hop, resolve, invoke, builtin, Sem.run_bind, Sem.run_pure, Result.andThen_ok, List.map_toArray, List.map_cons, List.map_nil, hs, hx, hr]
  exact h a' _ cap' w' rfl (OwnI.app h2) h3 h4

theorem OwnI.lit0 (w : World) (base : Nat) (hb : base ≤ w.heap.size) : OwnI 3 (w.alloc (.cells #[] 3)) base (.slice (some ⟨w.heap.size, 0, none⟩) 0 0) [] :=
  World.ownsRow_lit w #[] 0 hb (by simp [maxLen]) rfl

/-- behind a fall's two appends -/
def Both (w0 : World) (base : Nat) (v v' : Value) (cs rs : List Int) (w : World) : Prop :=
  OwnI 3 w base v cs ∧ OwnI 3 w base v' rs ∧ Ap v v' ∧ Below base w0 w

/-- beside them: the fall's own block -/
structure St (w0 : World) (base F : Nat) (f : FT) (v v' : Value) (cs rs : List Int) (W : World) : Prop where
  c : OwnI 3 W base v cs
  r : OwnI 3 W base v' rs
  ap : Ap v v'
  bel : Below base w0 W
  blk : W.heap[F]? = some (.cells f.vs.toArray 24 (0, 0))
  nc : v.ownBlock ≠ some F
  nr : v'.ownBlock ≠ some F
  sz : base ≤ W.heap.size
/-- and the literal of the rest -/
structure St2 (w0 : World) (base F g : Nat) (f : FT) (v v' : Value) (cs rs : List Int) (W : World) : Prop where
  st : St w0 base F f v v' cs rs W
  lit : W.heap[g]? = some (.cells #[.int .i64 f.r] 3 (0, 0))
  nc : v.ownBlock ≠ some g
  nr : v'.ownBlock ≠ some g
section
variable {w0 W W' : World} {base F g : Nat} {f : FT} {v v' v1 : Value} {cs rs cs1 rs1 : List Int}
theorem St.both (h : St w0 base F f v v' cs rs W) : Both w0 base v v' cs rs W := ⟨h.c, h.r, h.ap, h.bel⟩
theorem St.drew (h : St w0 base F f v v' cs rs W) : St w0 base F f v v' cs rs W.drew := ⟨h.c, h.r, h.ap, h.bel.drew, h.blk, h.nc, h.nr, h.sz⟩
theorem blk_grown {C : Array Value} {t : TypeId} {row : Option Nat} (hh : W.heap[g]? = some (.cells C t (0, 0))) (hg : W.grownBy W' row) (hne : row ≠ some g) : W'.heap[g]? = some (.cells C t (0, 0)) :=
  (hg.block g (Array.getElem?_eq_some_iff.1 hh).1 (fun e => hne e.symm)).trans hh
theorem blk_lt {C : Array Value} {t : TypeId} (hh : W.heap[g]? = some (.cells C t (0, 0))) : g < W.heap.size := (Array.getElem?_eq_some_iff.1 hh).1
theorem own_ne (hat : Hid (v1.ownBlock = v.ownBlock ∨ v1.ownBlock = some W.heap.size)) (hn : v.ownBlock ≠ some g) (hg : g < W.heap.size) : v1.ownBlock ≠ some g := by
  intro e
  rcases hat.out with h | h
  · exact hn (h ▸ e)
  · rw [h] at e
    cases e
    exact Nat.lt_irrefl _ hg
theorem St.stepC (h : St w0 base F f v v' cs rs W) (ho : OwnI 3 W' base v1 cs1) (hg : W.grownBy W' v.ownBlock) (hat : Hid (v1.ownBlock = v.ownBlock ∨ v1.ownBlock = some W.heap.size)) : St w0 base F f v1 v' cs1 rs W' :=
  ⟨ho, OwnI.grownO h.r hg (fun k hk e => h.ap k e hk), Ap.step h.ap hat (OwnI.lt h.r), h.bel.grown hg h.sz (fun k hk => OwnI.ge h.c k hk), blk_grown h.blk hg h.nc, own_ne hat h.nc (blk_lt h.blk), h.nr, Nat.le_trans h.sz hg.size⟩
theorem St.stepR (h : St w0 base F f v v' cs rs W) (ho : OwnI 3 W' base v1 rs1) (hg : W.grownBy W' v'.ownBlock) (hat : Hid (v1.ownBlock = v'.ownBlock ∨ v1.ownBlock = some W.heap.size)) : St w0 base F f v v1 cs rs1 W' :=
  ⟨OwnI.grownO h.c hg (fun k hk e => h.ap k hk e), ho, (Ap.step h.ap.symm hat (OwnI.lt h.c)).symm, h.bel.grown hg h.sz (fun k hk => OwnI.ge h.r k hk), blk_grown h.blk hg h.nr, h.nc, own_ne hat h.nr (blk_lt h.blk), Nat.le_trans h.sz hg.size⟩
theorem St.box (h : St w0 base F f v v' cs rs W) : St2 w0 base F W.heap.size f v v' cs rs (W.alloc (.cells #[.int .i64 f.r] 3)) :=
  ⟨⟨h.c.alloc _, h.r.alloc _, h.ap, h.bel.alloc h.sz _, ((Below.heap_alloc W _ _ (blk_lt h.blk)).trans h.blk), h.nc, h.nr, by have := h.sz; simp; omega⟩, heap_alloc_new W _, fun e => Nat.lt_irrefl _ (OwnI.lt h.c _ e), fun e => Nat.lt_irrefl _ (OwnI.lt h.r _ e)⟩
theorem St2.stepC (h : St2 w0 base F g f v v' cs rs W) (ho : OwnI 3 W' base v1 cs1) (hg : W.grownBy W' v.ownBlock) (hat : Hid (v1.ownBlock = v.ownBlock ∨ v1.ownBlock = some W.heap.size)) : St2 w0 base F g f v1 v' cs1 rs W' :=
  ⟨h.st.stepC ho hg hat, blk_grown h.lit hg h.nc, own_ne hat h.nc (blk_lt h.lit), h.nr⟩
theorem St2.is (h : St2 w0 base F g f v v' cs rs W) : Is W (.slice (some ⟨g, 0, none⟩) 1 1) [f.r] := Is.block (l := [f.r]) h.lit (Nat.le_refl _) (by simp [maxLen])
theorem St.cell (h : St w0 base F f v v' cs rs W) : W.cell? ⟨F, 7, none⟩ = some (.int .i64 f.r) := by
  unfold World.cell?
  rw [h.blk]
  rfl
theorem St.src (h : St w0 base F f v v' cs rs W) : Is W (.slice (some ⟨F, 2, none⟩) 5 5) f.ps := by
  refine ⟨rfl, some ⟨F, 2, none⟩, 5, rfl, Nat.le_refl _, by simp [maxLen], (fun e => by cases e), ?_⟩
  intro ad had j u hu
  cases had
  rw [add_none]
  unfold World.cell?
  rw [h.blk]
  match j, hu with
  | 0, hu => exact hu
  | 1, hu => exact hu
  | 2, hu => exact hu
  | 3, hu => exact hu
  | 4, hu => exact hu
  | j + 5, hu => simp [FT.ps] at hu
end

set_option maxRecDepth 100000 in
set_option maxHeartbeats 1600000 in
theorem fallSum_any (w : World) (v : Value) (l : List FT) (h : Fs w v l) (hl : l.length ≤ 1000) :
    Calls Try.prog 15 #[v] w fun e w' => e = .returned (.tuple #[.int .i64 (fsC l), .int .i64 (fsR l), .int .i64 (fsE l)]) ∧ Below w.heap.size w w' := by
  obtain ⟨av, cap, rfl, hcap, hm⟩ := h.shape
  obtain ⟨n, hn⟩ : ∃ n, n = l.length := ⟨_, rfl⟩
  have HN := Lib.hid hn
  rw [← hn] at hcap hl ⊢
  rw [← hn] at h
  clear hn
  go_enter Try.func15, Try.ntmps15
  go_wp2_with fail
  go_loopw [5, 6, 13] (fun v5 v6 i wr => ∃ (k : Nat) (cs rs : List Int) (a5 a6 : Option Addr) (n5 c5 n6 c6 : Nat), k ≤ n ∧ i = .int .i64 k ∧ v5 = .slice a5 n5 c5 ∧ v6 = .slice a6 n6 c6 ∧ Both w w.heap.size (.slice a5 n5 c5) (.slice a6 n6 c6) cs rs wr ∧ Hid (cs = chs (l.take k) ∧ rs = rts (l.take k))) (fun _ _ i _ => n - (intOf i).toNat)
  case atStart => exact ⟨0, [], [], none, none, 0, 0, 0, 0, Nat.zero_le _, rfl, rfl, rfl, ⟨OwnI.empty _ _ _, OwnI.empty _ _ _, Ap.nil, Below.refl _ _⟩, ⟨rfl, rfl⟩⟩
  case round =>
    obtain ⟨k, cs, rs, a5, a6, n5, c5, n6, c6, hk, rfl, rfl, rfl, HB, HL⟩ := hrel
    have HB := Lib.hid HB
    have hlen : cs.length ≤ 5000 ∧ rs.length ≤ 1000 := by
      rw [HL.out.1, HL.out.2, chs_length, rts_length, List.length_take]
      omega
    by_cases hlt : k < n
    · have hkl : k < l.length := by have := HN.out; omega
      obtain ⟨b, off, rfl, _, hc⟩ := (h.mono HB.out.2.2.2).at (by omega)
      have hck := hc k hkl
      obtain ⟨f, hf⟩ : ∃ f, f = l[k] := ⟨_, rfl⟩
      rw [← hf] at hck
      have HF := Lib.hid hf
      have hc0 : wr.cell? ⟨b, off + k * 8, none⟩ = some (.int .i64 f.cur) := hck 0 _ rfl
      have hc1 := hck 1 _ rfl
      have hc2 := hck 2 _ rfl
      have hc3 := hck 3 _ rfl
      have hc4 := hck 4 _ rfl
      have hc5 := hck 5 _ rfl
      have hc6 := hck 6 _ rfl
      have hc7 := hck 7 _ rfl
      clear hc hck hf
      have hS : St w w.heap.size wr.heap.size f (.slice a5 n5 c5) (.slice a6 n6 c6) cs rs (wr.alloc (.cells f.vs.toArray 24)) :=
        ⟨HB.out.1.alloc _, HB.out.2.1.alloc _, HB.out.2.2.1, HB.out.2.2.2.alloc HB.out.2.2.2.size _, heap_alloc_new wr _, fun e => Nat.lt_irrefl _ (OwnI.lt HB.out.1 _ e), fun e => Nat.lt_irrefl _ (OwnI.lt HB.out.2.1 _ e), by have := HB.out.2.2.2.size; simp; omega⟩
      have HS := Lib.hid hS
      clear hS HB
      go_wp2_with fail
      change Code.wp _ _ _ _ (wr.alloc (.cells f.vs.toArray 24))
      generalize wr.alloc (.cells f.vs.toArray 24) = W at *
      clear hc0 hc1 hc2 hc3 hc4 hc5 hc6 hc7
      generalize wr.heap.size = F at *
      have hS := HS.out
      have hSd := hS.drew
      clear HS
      have hps : f.ps.length = 5 := rfl
      have Hps := Lib.hid hps
      clear hps
      have hlenA : (cs.length + f.ps.length) * 8 ≤ 140737488355328 := by rw [Hps.out]; omega
      have hlenB : (rs.length + [f.r].length) * 8 ≤ 140737488355328 := by simp; omega
      go_region_held3 (fun w' => w'.cell? ⟨F, 7, none⟩ = some (.int .i64 f.r))
        (first | exact hSd.cell | exact hS.cell | exact SA.cell | exact SA2.st.cell | exact (St.box hSd).st.cell | exact (St.box SA).st.cell | exact SB.cell | exact SF.cell | go_keep)
        (first
          | ((refine step_append_ints_at (by rfl) (.tmp 17) (.tmp 19) 28 (by rfl) (base := w.heap.size) (v := .slice a5 n5 c5) (l := cs) (m := f.ps) elem_int (by rfl) (by rfl) (by first | exact hSd.c | exact (St.box hSd).st.c | exact SB.c) (by first | exact hSd.src | exact (St.box hSd).st.src | exact SB.src) hlenA (by first | exact hSd.bel.size | exact (St.box hSd).st.bel.size | exact SB.bel.size) ?_; intro aA nA cA wA HnA hoA hgA hatA; first | have SA := St.stepC hSd hoA hgA hatA | have SA2 := St2.stepC (St.box hSd) hoA hgA hatA | have SF := St.stepC SB hoA hgA hatA))
          | ((refine step_append_ints_at (by rfl) (.tmp 21) (.tmp 24) 28 (by rfl) (base := w.heap.size) (v := .slice a6 n6 c6) (l := rs) (m := [f.r]) elem_int (by rfl) (by rfl) (by first | exact (St.box hSd).st.r | exact (St.box SA).st.r | exact SA2.st.r) (by first | exact (St.box hSd).is | exact (St.box SA).is | exact SA2.is) hlenB (by first | exact (St.box hSd).st.bel.size | exact (St.box SA).st.bel.size | exact SA2.st.bel.size) ?_; intro aB nB cB wB HnB hoB hgB hatB; first | have SB := St.stepR (St.box hSd).st hoB hgB hatB | have SF := St.stepR (St.box SA).st hoB hgB hatB | have SF := St.stepR SA2.st hoB hgB hatB)))
      all_goals
        have hfin := SF.both
        have HL2 : Hid (cs ++ f.ps = chs (l.take (k + 1)) ∧ rs ++ [f.r] = rts (l.take (k + 1))) := by
          show _ ∧ _
          rw [take_snoc l k hkl, chs_append, rts_append, ← HF.out, HL.out.1, HL.out.2]
          simp [chs, rts]
        have HFIN := Lib.hid hfin
        clear hfin SF hS hSd
        go_wp2_with fail
        exact ⟨⟨k + 1, cs ++ f.ps, rs ++ [f.r], _, _, _, _, _, _, by omega, by push_cast; rfl, rfl, rfl, HFIN.out, HL2⟩, by simp [intOf]; omega⟩
    · have hcs : cs = chs l ∧ rs = rts l := by
        rw [HL.out.1, HL.out.2, List.take_of_length_le (by have := HN.out; omega)]
        exact ⟨rfl, rfl⟩
      have HCS := Lib.hid hcs
      clear hcs HL
      obtain ⟨hoc, hor, hap, hbel⟩ := HB.out
      have Hlc := Lib.hid (OwnI.lt hoc)
      have Hlr := Lib.hid (OwnI.lt hor)
      have hl0 := OwnI.lit0 wr wr.heap.size (Nat.le_refl _)
      have hb0 : Below w.heap.size w (wr.alloc (.cells #[] 3)) := hbel.alloc hbel.size _
      have hoc0 := hoc.alloc (.cells #[] 3)
      have hor0 := hor.alloc (.cells #[] 3)
      have hle1 : (([] : List Int).length + cs.length) * 8 ≤ 140737488355328 := by simp; omega
      have hle2 : (([] ++ cs : List Int).length + rs.length) * 8 ≤ 140737488355328 := by simp; omega
      have hszr := hbel.size
      clear hoc hor hbel HB hap
      go_wp2_with (first
        | (at_builtin; refine wpList_append_ints (v := .slice (some ⟨wr.heap.size, 0, none⟩) 0 0) rfl (.tmp 27) (.tmp 28) 28 rfl (l := []) (m := cs) (base := wr.heap.size) elem_int rfl rfl hl0 hoc0.is hle1 (by simp) ?_; intro a7 n7 c7 w7 Hn7 ho7 hb7 hg7; have hsz7 := hb7.size; have hor7 : OwnI 3 w7 w.heap.size (.slice a6 n6 c6) rs := ownsRow_belowB hor0 hb7 Hlr.out; have hoc7 : OwnI 3 w7 w.heap.size (.slice a5 n5 c5) cs := ownsRow_belowB hoc0 hb7 Hlc.out; clear hl0 hoc0 hor0)
        | (at_builtin; refine wpList_append_ints (v := .slice a7 n7 c7) rfl (.tmp 29) (.tmp 30) 28 rfl (l := [] ++ cs) (m := rs) (base := wr.heap.size) elem_int rfl rfl ho7 hor7.is hle2 (by simp at hsz7; omega) ?_; intro a8 n8 c8 w8 Hn8 ho8 hb8 hg8; have hor8 : OwnI 3 w8 w.heap.size (.slice a6 n6 c6) rs := ownsRow_belowB hor7 hb8 Hlr.out; have hoc8 : OwnI 3 w8 w.heap.size (.slice a5 n5 c5) cs := ownsRow_belowB hoc7 hb8 Hlc.out; have hbw8 : Below w.heap.size w w8 := hb0.trans ((hb7.trans hb8).mono hszr); have Hn8' : Hid (n8 = ([] ++ cs ++ rs : List Int).length) := (by show _ = _; rw [Hn8.out]; simp); clear ho7 hor7 hoc7 hb8 hg8 hb7 hg7 Hn8 Hn7 hsz7)
        | fail)
      rw [List.nil_append] at ho8 Hn8'
      obtain ⟨m, hmm⟩ : ∃ m, m = cs ++ rs := ⟨_, rfl⟩
      rw [← hmm] at ho8 Hn8'
      have HM := Lib.hid hmm
      have HE : Hid (fsE l = if capsOk m = true then (if sumE cs = 0 then sumE rs else sumE cs) else 3) := by show _ = _; rw [hmm, HCS.out.1, HCS.out.2]; rfl
      have HC3 : Hid (fsE l ≠ 0 → fsC l = 0 ∧ fsR l = 0) := fun e => ⟨by unfold fsC; rw [if_neg e], by unfold fsR; rw [if_neg e]⟩
      have HC0 : Hid (fsE l = 0 → fsC l = sumI cs ∧ fsR l = sumI rs) := fun e => ⟨by unfold fsC; rw [if_pos e, HCS.out.1], by unfold fsR; rw [if_pos e, HCS.out.2]⟩
      have hml : n8 ≤ 6000 := by rw [Hn8'.out, hmm, List.length_append]; omega
      have hf3 : ∀ x ∈ m, ¬ (0 ≤ x ∧ x ≤ 4611686018427387904) → fsE l = 3 := by
        intro x hx hn
        rw [HE.out, if_neg]
        intro hc
        exact hn ((capsOk_iff m).1 hc x hx)
      have HF3 := Lib.hid hf3
      clear hmm hle1 hle2 HN Hlc Hlr hb0 hf3 HB hszr hm
      go_loopw [33] (fun i wx => ∃ q : Nat, q ≤ n8 ∧ i = .int .i64 q ∧ OwnI 3 wx wr.heap.size (.slice a8 n8 c8) m ∧ OwnI 3 wx w.heap.size (.slice a5 n5 c5) cs ∧ OwnI 3 wx w.heap.size (.slice a6 n6 c6) rs ∧ Hid (∀ x ∈ m.take q, 0 ≤ x ∧ x ≤ 4611686018427387904) ∧ Below w.heap.size w wx) (fun i _ => n8 - (intOf i).toNat)
      case atStart => exact ⟨0, Nat.zero_le _, rfl, ho8, hoc8, hor8, by show ∀ x ∈ m.take 0, _; simp, hbw8⟩
      case round =>
        obtain ⟨q, hq, rfl, hom, hoc, hor, HT, hbel⟩ := hrel
        clear ho8 hoc8 hor8 hbw8
        by_cases hq8 : q < n8
        · have hqm : q < m.length := by have := Hn8'.out; omega
          have his := hom.is
          rw [show m.length = n8 from Hn8'.out.symm] at hqm
          obtain ⟨b8, off8, rfl, _, hc8⟩ := his.at (by have := Hn8'.out; omega)
          have hcq := hc8 q (by have := Hn8'.out; omega)
          obtain ⟨x, hx⟩ : ∃ x, x = m[q]'(by have := Hn8'.out; omega) := ⟨_, rfl⟩
          rw [← hx] at hcq
          have hmem : x ∈ m := by rw [hx]; exact List.getElem_mem _
          have HX : Hid (m.take (q + 1) = m.take q ++ [x]) := by show _ = _; rw [take_snoc m q (by have := Hn8'.out; omega), hx]
          have HMEM := Lib.hid hmem
          clear his hc8 hx hmem
          by_cases hneg : x < 0
          · have h3 := HF3.out x HMEM.out (by omega)
            have H3 := Lib.hid h3
            clear h3
            go_wp2_with fail
            refine bodyPost_ret (v := .tuple #[.int .i64 (0), .int .i64 (0), .int .i64 (3)]) (by simp [results, Try.results15, go_sem]) rfl ?_
            exact ⟨by rw [H3.out, (HC3.out (by rw [H3.out]; omega)).1, (HC3.out (by rw [H3.out]; omega)).2], hbel⟩
          · have hneg' : decide (x < 0) = false := by simp; omega
            have hb9 := hbel.alloc hbel.size (.cells #[.int .i64 x] 3)
            go_wp2_with fail
            refine (Right_any _ _ [x] (Is.lit1' rfl x _)).mono ?_
            rintro e w9 ⟨rfl, rfl⟩
            have e2 : allRight [x] = rightB x := by simp [allRight]
            rw [e2]
            clear e2
            cases hr : rightB x with
            | false =>
              have h3 : fsE l = 3 := HF3.out x HMEM.out (by rw [Bool.eq_false_iff, Ne, rightB_iff] at hr; omega)
              have H3 := Lib.hid h3
              clear h3 hr
              go_wp2_with fail
              refine bodyPost_ret (v := .tuple #[.int .i64 (0), .int .i64 (0), .int .i64 (3)]) (by simp [results, Try.results15, go_sem]) rfl ?_
              exact ⟨by rw [H3.out, (HC3.out (by rw [H3.out]; omega)).1, (HC3.out (by rw [H3.out]; omega)).2], hb9⟩
            | true =>
              have hxr : 0 ≤ x ∧ x ≤ 4611686018427387904 := by rw [rightB_iff] at hr; omega
              have HT2 : Hid (∀ x ∈ m.take (q + 1), 0 ≤ x ∧ x ≤ 4611686018427387904) := by
                show ∀ x ∈ _, _
                rw [HX.out]
                intro y hy
                rcases List.mem_append.1 hy with h | h
                · exact HT.out y h
                · simp at h
                  rw [h]
                  exact hxr
              clear hr hxr hneg hneg'
              go_wp2_with fail
              exact ⟨⟨q + 1, by omega, by push_cast; rfl, hom.alloc _, hoc.alloc _, hor.alloc _, HT2, hb9⟩, by simp [intOf]; omega⟩
        · have hcap' : fsE l = if sumE cs = 0 then sumE rs else sumE cs := by
            rw [HE.out, if_pos]
            rw [capsOk_iff]
            have := HT.out
            rw [List.take_of_length_le (by have := Hn8'.out; omega)] at this
            exact this
          have HE2 := Lib.hid hcap'
          clear hcap' HE HT hom HF3
          obtain ⟨x1, hx1⟩ : ∃ x1, x1 = sumN cs := ⟨_, rfl⟩
          obtain ⟨y1, hy1⟩ : ∃ y1, y1 = sumE cs := ⟨_, rfl⟩
          obtain ⟨x2, hx2⟩ : ∃ x2, x2 = sumN rs := ⟨_, rfl⟩
          obtain ⟨y2, hy2⟩ : ∃ y2, y2 = sumE rs := ⟨_, rfl⟩
          have s1 := Sum_any _ _ cs hoc.is
          have s2 := fun wx hx => Sum_any wx (.slice a6 n6 c6) rs hx
          rw [← hx1, ← hy1] at s1
          rw [← hx2, ← hy2] at s2
          rw [← hy1, ← hy2] at HE2
          have HX1 := Lib.hid hx1
          have HX2 := Lib.hid hx2
          have HY1 := Lib.hid hy1
          have HY2 := Lib.hid hy2
          clear hx1 hx2 hy1 hy2
          go_wp2_with fail
          refine s1.mono ?_
          rintro e w9 ⟨rfl, hb9⟩
          have hbw9 := hbel.next hb9
          have hor9 := hor.below hb9
          have s3 := s2 _ hor9.is
          clear s1 s2 hoc hor hbel hb9 hor9
          by_cases hy : y1 = 0
          · subst hy
            go_wp2_with fail
            refine s3.mono ?_
            rintro e w10 ⟨rfl, hb10⟩
            have hbw10 := hbw9.next hb10
            clear s3 hb10 hbw9
            by_cases hy : y2 = 0
            · subst hy
              have H3 : Hid (fsE l = 0) := by show _ = _; rw [HE2.out]; rfl
              have HV : Hid (fsC l = x1 ∧ fsR l = x2) := by
                refine ⟨?_, ?_⟩
                · rw [(HC0.out H3.out).1, HX1.out]; unfold sumN; rw [if_pos HY1.out.symm]
                · rw [(HC0.out H3.out).2, HX2.out]; unfold sumN; rw [if_pos HY2.out.symm]
              go_wp2_with fail
              refine bodyPost_ret (v := .tuple #[.int .i64 (x1), .int .i64 (x2), .int .i64 (0)]) (by simp [results, Try.results15, go_sem]) rfl ?_
              exact ⟨by rw [H3.out, HV.out.1, HV.out.2], hbw10⟩
            · have hyb : (y2 == 0) = false := by simpa using hy
              have H3 : Hid (fsE l = y2) := by show _ = _; rw [HE2.out]; rfl
              have HV : Hid (fsC l = 0 ∧ fsR l = 0) := HC3.out (by rw [H3.out]; exact hy)
              go_wp2_with fail
              refine bodyPost_ret (v := .tuple #[.int .i64 (0), .int .i64 (0), .int .i64 (y2)]) (by simp [results, Try.results15, go_sem]) rfl ?_
              exact ⟨by rw [H3.out, HV.out.1, HV.out.2], hbw10⟩
          · have hyb : (y1 == 0) = false := by simpa using hy
            have H3 : Hid (fsE l = y1) := by show _ = _; rw [HE2.out, if_neg hy]
            have HV : Hid (fsC l = 0 ∧ fsR l = 0) := HC3.out (by rw [H3.out]; exact hy)
            go_wp2_with fail
            refine bodyPost_ret (v := .tuple #[.int .i64 (0), .int .i64 (0), .int .i64 (y1)]) (by simp [results, Try.results15, go_sem]) rfl ?_
            exact ⟨by rw [H3.out, HV.out.1, HV.out.2], hbw9⟩

end Cam
