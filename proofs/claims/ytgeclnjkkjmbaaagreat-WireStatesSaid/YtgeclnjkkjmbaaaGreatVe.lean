import Derived.Test.YtgeclnjkkjmbaaaGreatWtF
import Derived.Deep.CutBlock
/- wire.reader: seat; elements over seats. -/
namespace Cam
open Go Go.RowKit Go.Proofs
set_option linter.unusedVariables false
set_option linter.unusedSimpArgs false
set_option maxRecDepth 100000
set_option maxHeartbeats 6400000
def seT (wb : Bool) (s : RS) : SeT := ⟨(rIs 2 s).1.getD 0 0, (rIs 2 s).1.getD 1 0, rpT wb (rIs 2 s).2⟩
def seS (wb : Bool) (s : RS) : RS := (rpF wb (rIs 2 s).2).2
def seW (wb : Bool) (s : RS) : Bool := rpW wb (rIs 2 s).2
theorem seS_left (wb : Bool) (s : RS) : (seS wb s).1.length ≤ s.1.length := Nat.le_trans (rpF_left _ _) (rIs_left 2 s)
def SVown (w : World) (base : Nat) (x : SV) (s : SeT) : Prop := x.client = s.client ∧ x.seq = s.seq ∧ x.c = s.r.c ∧ x.n = s.r.n ∧ x.a = s.r.a ∧ OwnR DT.vs 3 106 w base x.vd s.r.D ∧ OwnR FT.vs 8 159 w base x.vf s.r.F
theorem SVown.kept {S : Nat → Prop} {w w' : World} {base : Nat} {x : SV} {s : SeT} (h : SVown w base x s) (hk : Kept S w w') (hd : ∀ k, x.vd.ownBlock = some k → ¬ S k) (hf : ∀ k, x.vf.ownBlock = some k → ¬ S k) : SVown w' base x s :=
 ⟨h.1, h.2.1, h.2.2.1, h.2.2.2.1, h.2.2.2.2.1, OwnR.keptS h.2.2.2.2.2.1 hk hd, OwnR.keptS h.2.2.2.2.2.2 hk hf⟩
theorem SVown.base {w : World} {base b : Nat} {x : SV} {s : SeT} (h : SVown w base x s) (hb : b ≤ base) : SVown w b x s :=
 ⟨h.1, h.2.1, h.2.2.1, h.2.2.2.1, h.2.2.2.2.1, OwnR.base h.2.2.2.2.2.1 hb, OwnR.base h.2.2.2.2.2.2 hb⟩
theorem SVown.ok {w : World} {base : Nat} {x : SV} {s : SeT} (h : SVown w base x s) : SVok w x s := ⟨h.1, h.2.1, h.2.2.1, h.2.2.2.1, h.2.2.2.2.1, h.2.2.2.2.2.1.rs, h.2.2.2.2.2.2.rs⟩
theorem SVown.ge {w : World} {base : Nat} {x : SV} {s : SeT} (h : SVown w base x s) : (∀ k, x.vd.ownBlock = some k → base ≤ k ∧ k < w.heap.size) ∧ ∀ k, x.vf.ownBlock = some k → base ≤ k ∧ k < w.heap.size :=
 ⟨fun k e => ⟨OwnR.ge h.2.2.2.2.2.1 k e, OwnR.lt h.2.2.2.2.2.1 k e⟩, fun k e => ⟨OwnR.ge h.2.2.2.2.2.2 k e, OwnR.lt h.2.2.2.2.2.2 k e⟩⟩
def SePost (w : World) (gr gp : Nat) (s : RS) (wb : Bool) (e : Ending) (w' : World) : Prop := ∃ x : SV, e = .returned (.agg #[x.client, x.seq, x.c, x.n, x.a, .slice x.a1 x.n1 x.c1, .slice x.a2 x.n2 x.c2]) ∧ SVown w' w.heap.size x (seT wb s) ∧ WR w' gr gp (seS wb s) (seW wb s) ∧ Kept (fun k => k = gp ∨ k = gr) w w'
theorem rdc_sea (w : World) (gr gp : Nat) (s : RS) (wb : Bool) (h : WR w gr gp s wb) (hlen : s.1.length ≤ 70368744177664) : Calls Tryz.prog 93 #[.pointer (some ⟨gr, 0, none⟩)] w (SePost w gr gp s wb) := by
 have hlt := h.lt
 have hpr := h.2.2
 have hb1 : Below w.heap.size w (w.alloc (.cells #[(0:Int), (0:Int), (0:Int), (0:Int), (0:Int), (), ()] 76)) := Bn
 have hb2 : Below w.heap.size w ((w.alloc (.cells #[(0:Int), (0:Int), (0:Int), (0:Int), (0:Int), (), ()] 76)).alloc (.cells #[.pointer (some ⟨w.heap.size, 0, none⟩), .pointer (some ⟨w.heap.size, 1, none⟩)] 165)) := hb1.alloc hb1.size _
 have hc : HT ((w.alloc (.cells #[(0:Int), (0:Int), (0:Int), (0:Int), (0:Int), (), ()] 76)).alloc (.cells #[.pointer (some ⟨w.heap.size, 0, none⟩), .pointer (some ⟨w.heap.size, 1, none⟩)] 165)) w.heap.size 76 [(0:Int), (0:Int), (0:Int), (0:Int), (0:Int), (), ()] := (HT.new (w := w)).below (Bn)
 have h0 := h.below hb2
 have hs : ∀ i, i < 2 → ((w.alloc (.cells #[(0:Int), (0:Int), (0:Int), (0:Int), (0:Int), (), ()] 76)).alloc (.cells #[.pointer (some ⟨w.heap.size, 0, none⟩), .pointer (some ⟨w.heap.size, 1, none⟩)] 165)).cell? ⟨w.heap.size + 1, i, none⟩ = some (.pointer (some ⟨w.heap.size, 0 + i, none⟩)) := by
  intro i hi
  have hh : ((w.alloc (.cells #[(0:Int), (0:Int), (0:Int), (0:Int), (0:Int), (), ()] 76)).alloc (.cells #[.pointer (some ⟨w.heap.size, 0, none⟩), .pointer (some ⟨w.heap.size, 1, none⟩)] 165)).heap[w.heap.size + 1]? = some (.cells #[.pointer (some ⟨w.heap.size, 0, none⟩), .pointer (some ⟨w.heap.size, 1, none⟩)] 165) := heap_new (by simp)
  unfold World.cell?
  rw [hh]
  rcases i with _ | _ | i
  all_goals first | rfl | omega
 have it := into_any _ gr gp w.heap.size (w.heap.size + 1) s 0 2 _ _ h0.cell.1 h0.2.1 hc hs (by simp) (by omega) (by omega) (by omega) (by omega) (by omega) (by omega) hlen
 obtain ⟨y0, y1, hy⟩ : ∃ y1 y2, (rIs 2 s).1 = [y1, y2] := by
  have h := rIs_len 2 s
  generalize (rIs 2 s).1 = L at h
  match L, h with
  | [a, b], _ => exact ⟨a, b, rfl⟩
 obtain ⟨s2, hs2⟩ : ∃ s2, s2 = (rIs 2 s).2 := ⟨_, rfl⟩
 have HL2 : Hid (s2.1.length ≤ 70368744177664) := by show _ ≤ _; rw [hs2]; exact Nat.le_trans (rIs_left 2 s) hlen
 rw [hy, ← hs2] at it
 obtain ⟨X, hX⟩ : ∃ X, X = rpT wb s2 := ⟨_, rfl⟩
 obtain ⟨s3, hs3⟩ : ∃ X, X = (rpF wb s2).2 := ⟨_, rfl⟩
 obtain ⟨wb3, hwb3⟩ : ∃ X, X = rpW wb s2 := ⟨_, rfl⟩
 have HR : Hid (seT wb s = ⟨y0, y1, X⟩ ∧ seS wb s = s3 ∧ seW wb s = wb3) := by
  show _ ∧ _
  unfold seT seS seW
  rw [hy, ← hs2, ← hX, ← hs3, ← hwb3]
  exact ⟨rfl, rfl, rfl⟩
 have HX := Lh (⟨hX, hs3, hwb3⟩ : _ ∧ _ ∧ _)
 have HB2 := Lh hb2
 have H0 := Lh h0
 have HH := Lh (⟨hlt, hpr⟩ : _ ∧ _)
 clear hlt hpr hb1 hb2 hc h h0 hs hy hs2 hX hs3 hwb3 hlen
 go_in
 go_wp2_with fail
 refine it.mono ?_
 clear it
 rintro e w3 ⟨rfl, hd3, hc3, hk3⟩
 have hw3 := H0.out.go hd3 hk3 (fun e => by have := HH.out; omega)
 have hc3' : HT w3 w.heap.size 76 [y0, y1, (0:Int), (0:Int), (0:Int), (), ()] := hc3
 have HC3 := Lh hc3'
 have HK3 : Hid (Kept (fun k => k = gp ∨ k = w.heap.size) w w3) := ((Kept.of_below HB2.out).weaken (fun _ h => h.elim)).trans hk3 (fun _ _ h => h)
 have rr := rdreply_any w3 gr gp s2 wb hw3 HL2.out
 clear hd3 hc3 hk3 hw3 hc3'
 go_wp2_with fail
 refine rr.mono ?_
 clear rr
 rintro e w4 ⟨val, rfl, hv, hw4, hk4⟩
 rw [← HX.out.1] at hv
 rw [← HX.out.2.1, ← HX.out.2.2] at hw4
 obtain ⟨a1, n1, c1, a2, n2, c2, hval, ho1, ho2⟩ := hv
 obtain ⟨rv, hrv⟩ : ∃ rv : List Value, rv = [.int .i64 X.c, .int .i64 X.n, .int .i64 X.a, .slice a1 n1 c1, .slice a2 n2 c2] := ⟨_, rfl⟩
 obtain rfl : val = .agg rv.toArray := by rw [hval, hrv]
 have hrl : rv.length = 5 := by rw [hrv]; rfl
 clear hval
 have hgg : w.heap.size < w3.heap.size := HC3.out.lt
 have hc4 := HC3.out.keptH hk4 (fun e => by have := HH.out; omega)
 have hput := hc4.puts (o := 2) (vs := rv) (by rw [hrl]; simp)
 have hput' : HT (w4.setCells w.heap.size 2 rv) w.heap.size 76 [y0, y1, X.c, X.n, X.a, .slice a1 n1 c1, .slice a2 n2 c2] := by
  have e : splice [.int .i64 y0, .int .i64 y1, .int .i64 0, .int .i64 0, .int .i64 0, .slice none 0 0, .slice none 0 0] 2 rv = [.int .i64 y0, .int .i64 y1, .int .i64 X.c, .int .i64 X.n, .int .i64 X.a, .slice a1 n1 c1, .slice a2 n2 c2] := by rw [hrv]; rfl
  rw [e] at hput
  exact hput
 have hkS := setCells_kept w.heap.size rv 2 w4
 have hw5 := hw4.go (hw4.2.1.kept hkS (fun k hk (e : k = w.heap.size) => by have := HH.out; omega)) hkS (fun (e : gr = w.heap.size) => by have := HH.out; omega)
 have ho1' := OwnR.keptS ho1 hkS (fun k hk (e : k = w.heap.size) => by have := OwnR.ge ho1 k hk; omega)
 have ho2' := OwnR.keptS ho2 hkS (fun k hk (e : k = w.heap.size) => by have := OwnR.ge ho2 k hk; omega)
 have hk5 : Kept (fun k => (k = gp ∨ k = gr) ∨ k = w.heap.size) w (w4.setCells w.heap.size 2 rv) := ((HK3.out.weaken (fun k h => by rcases h with h | h; exact .inl (.inl h); exact .inr h)).trans hk4 (fun _ _ h => .inl h)).trans hkS (fun _ _ h => .inr h)
 have HTH : Hid (w4.there w.heap.size 2 rv.toArray.size) := fun j hj => ⟨hc4.isSome (by simp [hrl] at hj ⊢; omega), hc4.frozen _⟩
 have HG : Hid ((w4.setCells w.heap.size 2 rv).heap[w.heap.size]? = some (.cells #[y0, y1, X.c, X.n, X.a, .slice a1 n1 c1, .slice a2 n2 c2] 76 (0, 0))) := hput'
 have HSZ : Hid ((Tryz.prog.info? 76).map (·.size) = some (#[y0, y1, X.c, X.n, X.a, .slice a1 n1 c1, .slice a2 n2 c2] : Array Value).size) := by show _ = _; rw [sea_sz]; rfl
 have HSR : Hid ((Tryz.prog.info? 63).map (·.size) = some rv.toArray.size) := by show _ = _; rw [repSz]; simp [hrl]
 have HONE : Hid ((#[y0, y1, X.c, X.n, X.a, .slice a1 n1 c1, .slice a2 n2 c2] : Array Value).all (·.oneCell') = true) := by show _ = true; simp [Value.oneCell']
 have HON2 : Hid (rv.toArray.all (·.oneCell') = true) := by show _ = true; rw [hrv]; simp [Value.oneCell']
 have HO := Lh (⟨ho1', ho2', hw5, hk5⟩ : _ ∧ _ ∧ _ ∧ _)
 have HGG := Lh hgg
 clear hgg hc4 hput hput' hkS hw5 ho1' ho2' hk5 ho1 ho2 hw4 hk4 hrv hrl
 go_wp2_with (first
  | (refine wpList_store_mid rfl 63 (.tmp 10) (.tmp 9) rfl w.heap.size 2 rv.toArray rfl rfl HTH.out HSR.out HON2.out ?_)
  | (refine wpList_load_row rfl 76 (.tmp 2) rfl w.heap.size rfl 76 #[y0, y1, X.c, X.n, X.a, .slice a1 n1 c1, .slice a2 n2 c2] (0, 0) _ HG.out Tryz.underlying76 rfl HSZ.out ?_)
  | (refine wpList_store_row rfl 76 (.tmp 2) (.tmp 11) rfl w.heap.size #[y0, y1, X.c, X.n, X.a, .slice a1 n1 c1, .slice a2 n2 c2] rfl rfl 76 #[y0, y1, X.c, X.n, X.a, .slice a1 n1 c1, .slice a2 n2 c2] HG.out HSZ.out rfl HONE.out ?_)
  | fail)
 refine bodyPost_ret (results_cell_row rfl _ _ w.heap.size 76 #[y0, y1, X.c, X.n, X.a, .slice a1 n1 c1, .slice a2 n2 c2] (0, 0) _ rfl (setRow_heap _ _ _ _ _ _ HG.out) Tryz.underlying76 rfl HSZ.out) rfl ?_
 obtain ⟨ho1, ho2, hw5, hk5⟩ := HO.out
 have hW9 : ∃ w9, w9 = w4.setCells w.heap.size 2 rv := ⟨_, rfl⟩
 obtain ⟨w9, hW9⟩ := hW9
 simp only [← hW9] at ho1 ho2 hw5 hk5 ⊢
 have hkr : Kept (fun k => k = w.heap.size) w9 (w9.setRow w.heap.size #[y0, y1, X.c, X.n, X.a, .slice a1 n1 c1, .slice a2 n2 c2]) := ⟨rfl, rfl, rfl, by simp [World.setRow], fun k _ hn => setRow_other _ _ _ _ hn⟩
 have hg1 := HGG.out
 have hr := HR.out
 refine ⟨⟨y0, y1, X.c, X.n, X.a, a1, n1, c1, a2, n2, c2⟩, rfl, ?_, ?_, ?_⟩
 ·
  rw [hr.1]
  exact ⟨rfl, rfl, rfl, rfl, rfl, OwnR.base (OwnR.keptS ho1 hkr (fun k hk (e : k = w.heap.size) => by have := OwnR.ge ho1 k hk; omega)) (by omega), OwnR.base (OwnR.keptS ho2 hkr (fun k hk (e : k = w.heap.size) => by have := OwnR.ge ho2 k hk; omega)) (by omega)⟩
 ·
  rw [hr.2.1, hr.2.2]
  exact hw5.go (hw5.2.1.kept hkr (fun k hk e => by have := HH.out; omega)) hkr (fun e => by have := HH.out; omega)
 ·
  have := hk5.trans hkr (fun _ _ h => .inr h)
  exact ⟨this.os, this.tape, this.output, this.size, fun k hk hn => this.block k hk (fun e => e.elim hn (fun e => by omega))⟩
def sesN : Nat → Bool → RS → List SeT × RS × Bool
 | 0, wb, s => ([], s, wb)
 | k + 1, wb, s => if (sesN k wb s).2.2 = true then sesN k wb s else ((sesN k wb s).1 ++ [seT (sesN k wb s).2.2 (sesN k wb s).2.1], seS (sesN k wb s).2.2 (sesN k wb s).2.1, seW (sesN k wb s).2.2 (sesN k wb s).2.1)
theorem sesN_left (k : Nat) (wb : Bool) (s : RS) : (sesN k wb s).2.1.1.length ≤ s.1.length := by
 induction k with
 | zero => exact Nat.le_refl _
 | succ k ih =>
  unfold sesN
  split
  ·
   exact ih
  ·
   exact Nat.le_trans (seS_left _ _) ih
theorem sesN_len (k : Nat) (wb : Bool) (s : RS) : (sesN k wb s).1.length ≤ k := by
 induction k with
 | zero => exact Nat.le_refl _
 | succ k ih =>
  unfold sesN
  split
  ·
   omega
  ·
   rw [List.length_append, List.length_singleton]
   show (sesN k wb s).1.length + 1 ≤ k + 1
   omega
theorem sesN_stop {k : Nat} {wb : Bool} {s : RS} (h : (sesN k wb s).2.2 = true) : ∀ m, sesN (k + m) wb s = sesN k wb s
 | 0 => rfl
 | m + 1 => by
  rw [← Nat.add_assoc]
  show (if (sesN (k + m) wb s).2.2 = true then sesN (k + m) wb s else _) = _
  rw [sesN_stop h m, if_pos h]
def seL (wb : Bool) (s : RS) : List SeT × RS × Bool := if elW wb (rI s).1 = true then ([], (rI s).2, true) else sesN (rI s).1.toNat wb (rI s).2
def SeOwn (w : World) (base : Nat) (v : Value) (L : List SV) (M : List SeT) : Prop := OwnR SV.vs 7 76 w base v L ∧ L.length = M.length ∧ (∀ i (h : i < L.length) (h' : i < M.length), SVown w base L[i] M[i]) ∧
 ∀ i (h : i < L.length), (∀ k, L[i].vd.ownBlock = some k → v.ownBlock ≠ some k) ∧ ∀ k, L[i].vf.ownBlock = some k → v.ownBlock ≠ some k
theorem SeOwn.nil (w : World) (base : Nat) : SeOwn w base (.slice none 0 0) [] [] := ⟨OwnR.empty SV.len _ _ _, rfl, fun i h => by simp at h, fun i h => by simp at h⟩
theorem SeOwn.kept {S : Nat → Prop} {w w' : World} {base : Nat} {v : Value} {L : List SV} {M : List SeT} (h : SeOwn w base v L M) (hk : Kept S w w') (hS : ∀ k, base ≤ k → k < w.heap.size → ¬ S k) : SeOwn w' base v L M :=
 ⟨OwnR.keptS h.1 hk (fun k e => hS k (OwnR.ge h.1 k e) (OwnR.lt h.1 k e)), h.2.1, fun i h1 h2 => (h.2.2.1 i h1 h2).kept hk (fun k e => hS k ((h.2.2.1 i h1 h2).ge.1 k e).1 ((h.2.2.1 i h1 h2).ge.1 k e).2) (fun k e => hS k ((h.2.2.1 i h1 h2).ge.2 k e).1 ((h.2.2.1 i h1 h2).ge.2 k e).2), h.2.2.2⟩
theorem SeOwn.base {w : World} {base b : Nat} {v : Value} {L : List SV} {M : List SeT} (h : SeOwn w base v L M) (hb : b ≤ base) : SeOwn w b v L M := ⟨OwnR.base h.1 hb, h.2.1, fun i h1 h2 => (h.2.2.1 i h1 h2).base hb, h.2.2.2⟩
theorem SeOwn.snoc {w w' : World} {base : Nat} {v v' : Value} {L : List SV} {M : List SeT} {x : SV} {s : SeT} (h : SeOwn w base v L M) (hx : SVown w base x s) (hxn : (∀ k, x.vd.ownBlock = some k → v.ownBlock ≠ some k) ∧ ∀ k, x.vf.ownBlock = some k → v.ownBlock ≠ some k) (ho : OwnR SV.vs 7 76 w' base v' (L ++ [x])) (hg : w.grownBy w' v.ownBlock) (hat : v'.ownBlock = v.ownBlock ∨ v'.ownBlock = some w.heap.size) : SeOwn w' base v' (L ++ [x]) (M ++ [s]) := by
 have hk := Kept.of_grown hg
 have hne : ∀ k, k < w.heap.size → v.ownBlock ≠ some k → v'.ownBlock ≠ some k := fun k hk hn => by
  rcases hat with e | e
  ·
   rw [e]; exact hn
  ·
   rw [e]; intro e2; injection e2 with e2; omega
 refine ⟨ho, by simp [h.2.1], fun i h1 h2 => ?_, fun i h1 => ?_⟩
 ·
  by_cases hi : i < L.length
  ·
   have hi2 : i < M.length := by rw [← h.2.1]; exact hi
   rw [List.getElem_append_left hi, List.getElem_append_left hi2]
   exact (h.2.2.1 i hi hi2).kept hk (fun k e => (h.2.2.2 i hi).1 k e) (fun k e => (h.2.2.2 i hi).2 k e)
  ·
   have e1 : i = L.length := by simp at h1; omega
   have e2 : i = M.length := by rw [← h.2.1]; exact e1
   rw [List.getElem_append_right (by omega), List.getElem_append_right (by omega)]
   simp only [List.getElem_singleton]
   exact hx.kept hk hxn.1 hxn.2
 ·
  by_cases hi : i < L.length
  ·
   rw [List.getElem_append_left hi]
   have hi2 : i < M.length := by rw [← h.2.1]; exact hi
   have hge := (h.2.2.1 i hi hi2).ge
   exact ⟨fun k e => hne k (hge.1 k e).2 ((h.2.2.2 i hi).1 k e), fun k e => hne k (hge.2 k e).2 ((h.2.2.2 i hi).2 k e)⟩
  ·
   rw [List.getElem_append_right (by omega)]
   simp only [List.getElem_singleton]
   exact ⟨fun k e => hne k (hx.ge.1 k e).2 (hxn.1 k e), fun k e => hne k (hx.ge.2 k e).2 (hxn.2 k e)⟩
def ElSe (w : World) (gr gp : Nat) (s : RS) (wb : Bool) (e : Ending) (w' : World) : Prop := ∃ a n c L, e = .returned (.slice a n c) ∧ SeOwn w' w.heap.size (.slice a n c) L (seL wb s).1 ∧ WR w' gr gp (seL wb s).2.1 (seL wb s).2.2 ∧ Kept (fun k => k = gp ∨ k = gr) w w'
theorem elems_sea (w : World) (gr gp : Nat) (s : RS) (wb : Bool) (h : WR w gr gp s wb) (hlen : s.1.length ≤ 70368744177664) :
  Calls Tryz.prog 92 #[.pointer (some ⟨gr, 0, none⟩), .func (.func 93) #[.pointer (some ⟨gr, 0, none⟩)] #[]] w (ElSe w gr gp s wb) := by
 have hc0 := h.cell.1
 have ri := RInt_any w gp s h.2.1 hlen
 obtain ⟨n, hn⟩ : ∃ n, n = (rI s).1 := ⟨_, rfl⟩
 obtain ⟨s1, hs1⟩ : ∃ s1, s1 = (rI s).2 := ⟨_, rfl⟩
 rw [← hn, ← hs1] at ri
 have HL : Hid (seL wb s = if elW wb n = true then ([], s1, true) else sesN n.toNat wb s1) := by show _ = _; unfold seL; rw [← hn, ← hs1]
 have HN := Lh hn
 have HLEN : Hid (s1.1.length ≤ 70368744177664) := by show _ ≤ _; rw [hs1]; exact Nat.le_trans (rIs_left 1 s) hlen
 have H := Lh h
 have hgg : gp < gr := h.2.2
 have HGG := Lh hgg
 have hnr : -9223372036854775808 ≤ n ∧ n ≤ 9223372036854775807 := by rw [hn]; exact rI_range s
 clear hn hs1 h hlen hgg
 go_in
 go_wp2_with fail
 refine ri.mono ?_
 clear ri hc0
 rintro e w1 ⟨rfl, hd1, hk1⟩
 have hw1 := H.out.go hd1 hk1 (fun e => by have := HGG.out; omega)
 have HK1 := Lh hk1
 have HW1 := Lh hw1
 have hcw := hw1.cell.2.1
 have hfw := hw1.cell.2.2
 clear hd1 hk1 hw1
 by_cases hneg : n < 0
 ·
  have hd : decide (n < 0) = true := by simpa using hneg
  obtain ⟨HPUT, HK2⟩ := el_bad HW1 HK1 HGG
  have hcp := HPUT.out.cell.2.1
  have HE : Hid (elW wb n = true) := by show _ = _; unfold elW; simp; omega
  go_wp2_with fail
  generalize hw2 : w1.setCell ⟨gr, 1, none⟩ (.bool true) = w2 at *
  clear hw2
  go_loopw [6, 7] (fun v6 v7 wr => v6 = .slice none 0 0 ∧ v7 = .int .i64 0 ∧ wr = w2) (fun _ _ _ => 0)
  case atStart => exact ⟨rfl, rfl, rfl⟩
  case round =>
   obtain ⟨rfl, rfl, rfl⟩ := hrel
   go_wp2_with fail
   all_goals
    go_ret
    have hE : seL wb s = ([], s1, true) := by rw [HL.out, if_pos HE.out]
    exact ⟨none, 0, 0, [], rfl, by rw [hE]; exact SeOwn.nil _ _, by rw [hE]; exact HPUT.out, HK2.out⟩
 ·
  have hneg' : 0 ≤ n := by omega
  obtain ⟨N, rfl⟩ : ∃ N : Nat, n = N := ⟨n.toNat, by omega⟩
  clear hneg hneg' hnr
  by_cases hbig : 1024 < N
  ·
   obtain ⟨HPUT, HK2⟩ := el_bad HW1 HK1 HGG
   have hcp := HPUT.out.cell.2.1
   have HE : Hid (elW wb (N : Int) = true) := by show _ = _; unfold elW; simp; omega
   go_wp2_with fail
   generalize hw2 : w1.setCell ⟨gr, 1, none⟩ (.bool true) = w2 at *
   clear hw2
   go_loopw [6, 7] (fun v6 v7 wr => v6 = .slice none 0 0 ∧ v7 = .int .i64 0 ∧ wr = w2) (fun _ _ _ => 0)
   case atStart => exact ⟨rfl, rfl, rfl⟩
   case round =>
    obtain ⟨rfl, rfl, rfl⟩ := hrel
    go_wp2_with fail
    all_goals
     go_ret
     have hE : seL wb s = ([], s1, true) := by rw [HL.out, if_pos HE.out]
     exact ⟨none, 0, 0, [], rfl, by rw [hE]; exact SeOwn.nil _ _, by rw [hE]; exact HPUT.out, HK2.out⟩
  ·
   have HE : Hid (elW wb (N : Int) = wb) := by show _ = _; unfold elW; cases wb <;> simp <;> omega
   have HK2 : Hid (Kept (fun k => k = gp ∨ k = gr) w w1) := HK1.out.weaken (T := fun k => k = gp ∨ k = gr) (fun _ h => .inl h)
   cases wb with
   | true =>
    have HPUT := HW1
    have hcp := hcw
    obtain ⟨w2, hw2⟩ : ∃ w2, w2 = w1 := ⟨_, rfl⟩
    subst hw2
    clear hcw
    go_wp2_with fail
    go_loopw [6, 7] (fun v6 v7 wr => v6 = .slice none 0 0 ∧ v7 = .int .i64 0 ∧ wr = w2) (fun _ _ _ => 0)
    case atStart => exact ⟨rfl, rfl, rfl⟩
    case round =>
     obtain ⟨rfl, rfl, rfl⟩ := hrel
     go_wp2_with fail
     all_goals
      go_ret
      have hE : seL true s = ([], s1, true) := by rw [HL.out, if_pos HE.out]
      exact ⟨none, 0, 0, [], rfl, by rw [hE]; exact SeOwn.nil _ _, by rw [hE]; exact HPUT.out, HK2.out⟩
   | false =>
    have HBIG := Lh hbig
    clear hcw hfw
    go_wp2_with fail
    go_loopw [6, 7] (fun v6 v7 wr => ∃ (k : Nat) (a : Option Addr) (n6 c6 : Nat) (L : List SV), k ≤ N ∧ v7 = .int .i64 k ∧ v6 = .slice a n6 c6 ∧ SeOwn wr w.heap.size (.slice a n6 c6) L (sesN k false s1).1 ∧ WR wr gr gp (sesN k false s1).2.1 (sesN k false s1).2.2 ∧ Kept (fun k => k = gp ∨ k = gr) w wr) (fun _ i _ => N - (intOf i).toNat)
    case atStart => exact ⟨0, none, 0, 0, [], Nat.zero_le _, rfl, rfl, SeOwn.nil _ _, HW1.out, HK2.out⟩
    case round =>
     obtain ⟨k, a, n6, c6, L, hk, rfl, rfl, ho, hw, hkp⟩ := hrel
     have hlr := sesN_len k false s1
     have hll := sesN_left k false s1
     obtain ⟨M, hM⟩ : ∃ M, M = (sesN k false s1).1 := ⟨_, rfl⟩
     obtain ⟨sk, hsk⟩ : ∃ M, M = (sesN k false s1).2.1 := ⟨_, rfl⟩
     obtain ⟨bk, hbk⟩ : ∃ M, M = (sesN k false s1).2.2 := ⟨_, rfl⟩
     rw [← hM] at ho hlr
     rw [← hsk] at hll hw
     rw [← hbk] at hw
     have HMS : Hid (sesN k false s1 = (M, sk, bk)) := by show _ = _; rw [hM, hsk, hbk]
     clear hM hsk hbk
     have hcw := hw.cell.2.1
     by_cases hlt : k < N
     ·
      cases bk with
      | true =>
       have HO := Lh ho
       have HW := Lh hw
       have HKP := Lh hkp
       have HST : Hid (sesN N false s1 = (M, sk, true)) := by
        show _ = _
        obtain ⟨m, rfl⟩ : ∃ m, N = k + m := ⟨N - k, by omega⟩
        rw [sesN_stop (by rw [HMS.out]) m, HMS.out]
       clear ho hw hkp hlr hll
       go_wp2_with fail
       go_ret
       have hE : seL false s = (M, sk, true) := by rw [HL.out, HE.out]; simpa using HST.out
       exact ⟨_, _, _, L, rfl, by rw [hE]; exact HO.out, by rw [hE]; exact HW.out, HKP.out⟩
      | false =>
       have rd := rdc_sea wr gr gp sk false hw (Nat.le_trans hll HLEN.out)
       have HN1 : Hid (sesN (k + 1) false s1 = (M ++ [seT false sk], seS false sk, seW false sk)) := by
        show (if (sesN k false s1).2.2 = true then _ else _) = _
        rw [HMS.out]
        rfl
       have HO := Lh ho
       have HKP := Lh hkp
       have hle : (L.length + [()].length) * 88 ≤ 140737488355328 := by have := HBIG.out; rw [ho.2.1]; simp; omega
       have HLE : Hid ((L.length + 1) * 88 ≤ 140737488355328) := hle
       clear ho hw hkp hlr hll hle
       go_wp2_with fail
       refine rd.mono ?_
       clear rd hcw
       rintro e w3 ⟨x, rfl, hx, hw3, hk3⟩
       have hbx : Below w3.heap.size w3 (w3.alloc (.cells #[x.client, x.seq, x.c, x.n, x.a, .slice x.a1 x.n1 x.c1, .slice x.a2 x.n2 x.c2] 76)) := Bn
       have ho3 : SeOwn w3 w.heap.size (.slice a n6 c6) L M := HO.out.kept hk3 (fun j hj _ e => by have := H.out.lt; have := HGG.out; omega)
       have hoA := ho3.kept (Kept.of_below hbx) (fun _ _ _ h => h)
       have hxA : SVown (w3.alloc (.cells #[x.client, x.seq, x.c, x.n, x.a, .slice x.a1 x.n1 x.c1, .slice x.a2 x.n2 x.c2] 76)) w.heap.size x (seT false sk) := (hx.base HKP.out.size).kept (Kept.of_below hbx) (fun _ _ h => h) (fun _ _ h => h)
       have hxn : (∀ k, x.vd.ownBlock = some k → (Value.slice a n6 c6).ownBlock ≠ some k) ∧ ∀ k, x.vf.ownBlock = some k → (Value.slice a n6 c6).ownBlock ≠ some k :=
        ⟨fun k e e2 => by have h1 := (hx.ge.1 k e).1; have h2 := OwnR.lt HO.out.1 k e2; omega, fun k e e2 => by have h1 := (hx.ge.2 k e).1; have h2 := OwnR.lt HO.out.1 k e2; omega⟩
       have hone : Rs SV.vs 7 (w3.alloc (.cells #[x.client, x.seq, x.c, x.n, x.a, .slice x.a1 x.n1 x.c1, .slice x.a2 x.n2 x.c2] 76)) (.slice (some ⟨w3.heap.size, 0, none⟩) 1 1) [x] := Rs.one SV.len w3 x 76
       have HWA := Lh (hw3.below hbx)
       have HOA := Lh (⟨hoA, hxA, hxn⟩ : _ ∧ _ ∧ _)
       have HKA : Hid (Kept (fun k => k = gp ∨ k = gr) w (w3.alloc (.cells #[x.client, x.seq, x.c, x.n, x.a, .slice x.a1 x.n1 x.c1, .slice x.a2 x.n2 x.c2] 76))) := (HKP.out.trans hk3 (fun _ _ h => h)).alloc _
       have hbase : w.heap.size ≤ (w3.alloc (.cells #[x.client, x.seq, x.c, x.n, x.a, .slice x.a1 x.n1 x.c1, .slice x.a2 x.n2 x.c2] 76)).heap.size := HKA.out.size
       have hoR := hoA.1
       clear hbx hw3 hk3 ho3 hoA hxA hxn hx
       go_wp2_with (first
        | (at_builtin; refine wpList_append_rows (v := .slice a n6 c6) rfl (.tmp 34) (.tmp 37) 39 rfl (L := L) (M := [x]) (base := w.heap.size) elem_sea rfl rfl hoR hone SV.one HLE.out (by decide) hbase ?_; intro a7 n7 c7 w7 Hn7 ho7 hg7 hat7 hb7)
        | fail)
       have hge : ∀ j, (Value.slice a n6 c6).ownBlock = some j → w.heap.size ≤ j := OwnR.ge HO.out.1
       have hkg := Kept.of_grown hg7
       refine ⟨⟨k + 1, a7, n7, c7, L ++ [x], by omega, by push_cast; rfl, rfl, by rw [HN1.out]; exact SeOwn.snoc HOA.out.1 HOA.out.2.1 HOA.out.2.2 ho7 hg7 hat7.out, by rw [HN1.out]; exact HWA.out.go (HWA.out.2.1.kept hkg (fun j hj e => by have := hge j e; have := H.out.lt; have := HGG.out; omega)) hkg (fun e => by have := hge gr e; have := H.out.lt; omega), HKA.out.trans hkg (fun j hj e => by have := hge j e; omega)⟩, by simp [intOf]; omega⟩
     ·
      obtain rfl : k = N := by omega
      have HO := Lh ho
      have HW := Lh hw
      have HKP := Lh hkp
      clear ho hw hkp hlr hll
      go_wp2_with fail
      go_ret
      have hE : seL false s = (M, sk, bk) := by rw [HL.out, HE.out]; simpa using HMS.out
      exact ⟨_, _, _, L, rfl, by rw [hE]; exact HO.out, by rw [hE]; exact HW.out, HKP.out⟩
def sR0 (s : RS) : RS := s
def sW0 (_ : RS) : Bool := false
def sR1 (s : RS) : RS := (rIs 3 (sR0 s)).2
def sW1 (s : RS) : Bool := sW0 s
def sR2 (s : RS) : RS := (elL rdMbT (sW1 s) (sR1 s)).2
def sW2 (s : RS) : Bool := elW (sW1 s) (rI (sR1 s)).1
def sR3 (s : RS) : RS := (elL rdInT (sW2 s) (sR2 s)).2
def sW3 (s : RS) : Bool := elW (sW2 s) (rI (sR2 s)).1
def sR4 (s : RS) : RS := (elL rdAsT (sW3 s) (sR3 s)).2
def sW4 (s : RS) : Bool := elW (sW3 s) (rI (sR3 s)).1
def sR5 (s : RS) : RS := (rIs 1 (sR4 s)).2
def sW5 (s : RS) : Bool := sW4 s
def sR6 (s : RS) : RS := (elL rdTrT (sW5 s) (sR5 s)).2
def sW6 (s : RS) : Bool := elW (sW5 s) (rI (sR5 s)).1
def sR7 (s : RS) : RS := (elL rdPoT (sW6 s) (sR6 s)).2
def sW7 (s : RS) : Bool := elW (sW6 s) (rI (sR6 s)).1
def sR8 (s : RS) : RS := (rIs 1 (sR7 s)).2
def sW8 (s : RS) : Bool := sW7 s
def sR9 (s : RS) : RS := (elL rdBaT (sW8 s) (sR8 s)).2
def sW9 (s : RS) : Bool := elW (sW8 s) (rI (sR8 s)).1
def sR10 (s : RS) : RS := (elL rdPlT (sW9 s) (sR9 s)).2
def sW10 (s : RS) : Bool := elW (sW9 s) (rI (sR9 s)).1
def sR11 (s : RS) : RS := (elL rdCaT (sW10 s) (sR10 s)).2
def sW11 (s : RS) : Bool := elW (sW10 s) (rI (sR10 s)).1
def sR12 (s : RS) : RS := (elL rdBiT (sW11 s) (sR11 s)).2
def sW12 (s : RS) : Bool := elW (sW11 s) (rI (sR11 s)).1
def sR13 (s : RS) : RS := (seL (sW12 s) (sR12 s)).2.1
def sW13 (s : RS) : Bool := (seL (sW12 s) (sR12 s)).2.2
def stT (s : RS) : StT := ⟨(rIs 3 (sR0 s)).1.getD 0 0, (rIs 3 (sR0 s)).1.getD 1 0, (rIs 3 (sR0 s)).1.getD 2 0, (elL rdMbT (sW1 s) (sR1 s)).1, (elL rdInT (sW2 s) (sR2 s)).1, (elL rdAsT (sW3 s) (sR3 s)).1, (rIs 1 (sR4 s)).1.getD 0 0, (elL rdTrT (sW5 s) (sR5 s)).1, (elL rdPoT (sW6 s) (sR6 s)).1, (rIs 1 (sR7 s)).1.getD 0 0, (elL rdBaT (sW8 s) (sR8 s)).1, (elL rdPlT (sW9 s) (sR9 s)).1, (elL rdCaT (sW10 s) (sR10 s)).1, (elL rdBiT (sW11 s) (sR11 s)).1, (seL (sW12 s) (sR12 s)).1⟩
def StOwn (w : World) (base : Nat) (v : Value) (x : StT) : Prop := ∃ a1 n1 c1 a2 n2 c2 a3 n3 c3 a4 n4 c4 a5 n5 c5 a6 n6 c6 a7 n7 c7 a8 n8 c8 a9 n9 c9 a10 n10 c10 L, v = .agg #[x.now, x.day, x.ph, .slice a1 n1 c1, .slice a2 n2 c2, .slice a3 n3 c3, x.nx, .slice a4 n4 c4, .slice a5 n5 c5, x.la, .slice a6 n6 c6, .slice a7 n7 c7, .slice a8 n8 c8, .slice a9 n9 c9, .slice a10 n10 c10] ∧ OwnR MbT.vs 3 86 w base (.slice a1 n1 c1) x.M ∧ OwnR InT.vs 12 88 w base (.slice a2 n2 c2) x.I ∧ OwnR AsT.vs 4 91 w base (.slice a3 n3 c3) x.A ∧ OwnR TrT.vs 7 93 w base (.slice a4 n4 c4) x.T ∧ OwnR PoT.vs 4 98 w base (.slice a5 n5 c5) x.P ∧ OwnR BaT.vs 4 102 w base (.slice a6 n6 c6) x.B ∧ OwnR PlT.vs 3 104 w base (.slice a7 n7 c7) x.G ∧ OwnR CaT.vs 4 108 w base (.slice a8 n8 c8) x.C ∧ OwnR BiT.vs 5 110 w base (.slice a9 n9 c9) x.D ∧ SeOwn w base (.slice a10 n10 c10) L x.S
theorem StOwn.kept {S : Nat → Prop} {w w' : World} {base : Nat} {v : Value} {x : StT} (h : StOwn w base v x) (hk : Kept S w w') (hS : ∀ k, base ≤ k → ¬ S k) : StOwn w' base v x := by
 obtain ⟨a1, n1, c1, a2, n2, c2, a3, n3, c3, a4, n4, c4, a5, n5, c5, a6, n6, c6, a7, n7, c7, a8, n8, c8, a9, n9, c9, a10, n10, c10, L, e, h1, h2, h3, h4, h5, h6, h7, h8, h9, h10⟩ := h
 exact ⟨a1, n1, c1, a2, n2, c2, a3, n3, c3, a4, n4, c4, a5, n5, c5, a6, n6, c6, a7, n7, c7, a8, n8, c8, a9, n9, c9, a10, n10, c10, L, e, OwnR.keptS h1 hk (fun k hk => hS k (OwnR.ge h1 k hk)), OwnR.keptS h2 hk (fun k hk => hS k (OwnR.ge h2 k hk)), OwnR.keptS h3 hk (fun k hk => hS k (OwnR.ge h3 k hk)), OwnR.keptS h4 hk (fun k hk => hS k (OwnR.ge h4 k hk)), OwnR.keptS h5 hk (fun k hk => hS k (OwnR.ge h5 k hk)), OwnR.keptS h6 hk (fun k hk => hS k (OwnR.ge h6 k hk)), OwnR.keptS h7 hk (fun k hk => hS k (OwnR.ge h7 k hk)), OwnR.keptS h8 hk (fun k hk => hS k (OwnR.ge h8 k hk)), OwnR.keptS h9 hk (fun k hk => hS k (OwnR.ge h9 k hk)), h10.kept hk (fun k hk _ => hS k hk)⟩
theorem StOwn.below {w w' : World} {base : Nat} {v : Value} {x : StT} (h : StOwn w base v x) (hb : Below w.heap.size w w') : StOwn w' base v x := h.kept (Kept.of_below hb) (fun _ _ h => h)
theorem StOwn.base {w : World} {base b : Nat} {v : Value} {x : StT} (h : StOwn w base v x) (hb : b ≤ base) : StOwn w b v x := by
 obtain ⟨a1, n1, c1, a2, n2, c2, a3, n3, c3, a4, n4, c4, a5, n5, c5, a6, n6, c6, a7, n7, c7, a8, n8, c8, a9, n9, c9, a10, n10, c10, L, e, h1, h2, h3, h4, h5, h6, h7, h8, h9, h10⟩ := h
 exact ⟨a1, n1, c1, a2, n2, c2, a3, n3, c3, a4, n4, c4, a5, n5, c5, a6, n6, c6, a7, n7, c7, a8, n8, c8, a9, n9, c9, a10, n10, c10, L, e, OwnR.base h1 hb, OwnR.base h2 hb, OwnR.base h3 hb, OwnR.base h4 hb, OwnR.base h5 hb, OwnR.base h6 hb, OwnR.base h7 hb, OwnR.base h8 hb, OwnR.base h9 hb, h10.base hb⟩
theorem StOwn.c {w : World} {base : Nat} {v : Value} {x : StT} (h : StOwn w base v x) : ∃ a1 n1 c1 a2 n2 c2 a3 n3 c3 a4 n4 c4 a5 n5 c5 a6 n6 c6 a7 n7 c7 a8 n8 c8 a9 n9 c9 a10 n10 c10 L, v = .agg #[x.now, x.day, x.ph, .slice a1 n1 c1, .slice a2 n2 c2, .slice a3 n3 c3, x.nx, .slice a4 n4 c4, .slice a5 n5 c5, x.la, .slice a6 n6 c6, .slice a7 n7 c7, .slice a8 n8 c8, .slice a9 n9 c9, .slice a10 n10 c10] ∧ StC w a1 n1 c1 a2 n2 c2 a3 n3 c3 a4 n4 c4 a5 n5 c5 a6 n6 c6 a7 n7 c7 a8 n8 c8 a9 n9 c9 a10 n10 c10 L x := by
 obtain ⟨a1, n1, c1, a2, n2, c2, a3, n3, c3, a4, n4, c4, a5, n5, c5, a6, n6, c6, a7, n7, c7, a8, n8, c8, a9, n9, c9, a10, n10, c10, L, e, h1, h2, h3, h4, h5, h6, h7, h8, h9, h10⟩ := h
 exact ⟨a1, n1, c1, a2, n2, c2, a3, n3, c3, a4, n4, c4, a5, n5, c5, a6, n6, c6, a7, n7, c7, a8, n8, c8, a9, n9, c9, a10, n10, c10, L, e, h1.rs, h2.rs, h3.rs, h4.rs, h5.rs, h6.rs, h7.rs, h8.rs, h9.rs, h10.1.rs, h10.2.1, fun i h h' => (h10.2.2.1 i h h').ok⟩
def StPost (w : World) (gr gp : Nat) (s : RS) (e : Ending) (w' : World) : Prop := ∃ v, e = .returned v ∧ StOwn w' w.heap.size v (stT s) ∧ WR w' gr gp (sR13 s) (sW13 s) ∧ Kept (fun k => k = gp ∨ k = gr) w w'
theorem rdstate_any (w : World) (gr gp : Nat) (s : RS) (h : WR w gr gp s false) (hlen : s.1.length ≤ 70368744177664) : Calls Tryz.prog 32 #[.pointer (some ⟨gr, 0, none⟩)] w (StPost w gr gp s) := by
 have hlt := h.lt
 have hpr := h.2.2
 have hb1 : Below w.heap.size w (w.alloc (.cells #[(0:Int), (0:Int), (0:Int), (), (), (), (0:Int), (), (), (0:Int), (), (), (), (), ()] 41)) := Bn
 have HC0 : Hid (HT (w.alloc (.cells #[(0:Int), (0:Int), (0:Int), (), (), (), (0:Int), (), (), (0:Int), (), (), (), (), ()] 41)) w.heap.size 41 [(0:Int), (0:Int), (0:Int), (), (), (), (0:Int), (), (), (0:Int), (), (), (), (), ()]) := HT.new (w := w)
 have HW0 := Lh (h.below hb1)
 have HK0 : Hid (Kept (fun k => (k = gp ∨ k = gr) ∨ k = w.heap.size) w (w.alloc (.cells #[(0:Int), (0:Int), (0:Int), (), (), (), (0:Int), (), (), (0:Int), (), (), (), (), ()] 41))) := (Kept.of_below hb1).weaken (fun _ h => h.elim)
 have HH : Hid (gr < w.heap.size ∧ gp < gr) := ⟨hlt, hpr⟩
 have HGB0 : Hid (w.heap.size + 1 ≤ (w.alloc (.cells #[(0:Int), (0:Int), (0:Int), (), (), (), (0:Int), (), (), (0:Int), (), (), (), (), ()] 41)).heap.size) := by show _ ≤ _; simp
 obtain ⟨t0, ht0⟩ : ∃ t, t = sR0 s := ⟨_, rfl⟩
 obtain ⟨b0, hb0⟩ : ∃ t, t = sW0 s := ⟨_, rfl⟩
 have HE0 : Hid (t0 = sR0 s ∧ b0 = sW0 s) := ⟨ht0, hb0⟩
 rw [show s = t0 from ht0.symm, show false = b0 from hb0.symm] at HW0
 have HN0 : Hid (t0.1.length ≤ 70368744177664) := by show _ ≤ _; rw [ht0]; exact hlen
 clear hlt hpr hb1 h hlen ht0 hb0
 go_in
 go_upto_region 1 with fail
 generalize hW : (w.alloc (.cells #[(0:Int), (0:Int), (0:Int), (), (), (), (0:Int), (), (), (0:Int), (), (), (), (), ()] 41)) = w0 at *
 clear hW
 obtain ⟨g, hg⟩ : ∃ g, g = w.heap.size := ⟨_, rfl⟩
 have HG0 := Lh hg
 rw [← hg] at HC0 HK0 HH HGB0 ⊢
 clear hg
 have HM0 : Hid True := trivial
 have HF0 : Hid (Firm (fun k => k < g + 1) (fun _ => True)) := fun _ _ _ _ => trivial
 obtain ⟨y0, y1, y2, hy⟩ : ∃ y0 y1 y2, (rIs 3 t0).1 = [y0, y1, y2] := by
  have h := rIs_len 3 t0
  generalize (rIs 3 t0).1 = L at h
  match L, h with
  | [a, b, c], _ => exact ⟨a, b, c, rfl⟩
 obtain ⟨t1, ht⟩ : ∃ t, t = (rIs 3 t0).2 := ⟨_, rfl⟩
 have HY0 : Hid ((rIs 3 (sR0 s)).1 = [y0, y1, y2]) := by show _ = _; rw [← HE0.out.1]; exact hy
 have HE1 : Hid (t1 = sR1 s ∧ b0 = sW1 s) := ⟨by unfold sR1; rw [← HE0.out.1]; exact ht, HE0.out.2⟩
 have HN1 : Hid (t1.1.length ≤ 70368744177664) := by show _ ≤ _; rw [ht]; exact Nat.le_trans (rIs_left 3 t0) HN0.out
 have hbx : Below w0.heap.size w0 (w0.alloc (.cells #[.pointer (some ⟨g, 0, none⟩), .pointer (some ⟨g, 1, none⟩), .pointer (some ⟨g, 2, none⟩)] 165)) := Bn
 have hs : ∀ i, i < 3 → (w0.alloc (.cells #[.pointer (some ⟨g, 0, none⟩), .pointer (some ⟨g, 1, none⟩), .pointer (some ⟨g, 2, none⟩)] 165)).cell? ⟨w0.heap.size, i, none⟩ = some (.pointer (some ⟨g, 0 + i, none⟩)) := by
  intro i hi
  have hh : (w0.alloc (.cells #[.pointer (some ⟨g, 0, none⟩), .pointer (some ⟨g, 1, none⟩), .pointer (some ⟨g, 2, none⟩)] 165)).heap[w0.heap.size]? = some (.cells #[.pointer (some ⟨g, 0, none⟩), .pointer (some ⟨g, 1, none⟩), .pointer (some ⟨g, 2, none⟩)] 165) := heap_alloc_new _ _
  unfold World.cell?
  rw [hh]
  rcases i with _ | _ | _ | i
  all_goals first | rfl | omega
 have it := into_any (w0.alloc (.cells #[.pointer (some ⟨g, 0, none⟩), .pointer (some ⟨g, 1, none⟩), .pointer (some ⟨g, 2, none⟩)] 165)) gr gp g w0.heap.size t0 0 3 [(0:Int), (0:Int), (0:Int), (), (), (), (0:Int), (), (), (0:Int), (), (), (), (), ()] _ (HW0.out.below hbx).cell.1 (HW0.out.below hbx).2.1 (HC0.out.below hbx) hs (by simp) (by have := HH.out; omega) (by have := HH.out; omega) (by have := HH.out; omega) (by have := HH.out; have := HC0.out.lt; omega) (by have := HC0.out.lt; omega) (by omega) HN0.out
 rw [hy, ← ht] at it
 have HWA := Lh (HW0.out.below hbx)
 have HKA := Lh (HK0.out.alloc (.cells #[.pointer (some ⟨g, 0, none⟩), .pointer (some ⟨g, 1, none⟩), .pointer (some ⟨g, 2, none⟩)] 165))
 have HMA : Hid True := trivial
 clear hy ht hbx hs
 go_wp2_with fail
 refine it.mono ?_
 clear it
 rintro e w1 ⟨rfl, hd, hc, hk⟩
 have HC1 : Hid (HT w1 g 41 [y0, y1, y2, (), (), (), (0:Int), (), (), (0:Int), (), (), (), (), ()]) := hc
 have HW1 := Lh (HWA.out.go hd hk (fun e => by have := HH.out; omega))
 have HK1 : Hid (Kept (fun k => (k = gp ∨ k = gr) ∨ k = g) w w1) := HKA.out.trans hk (fun _ _ h => by rcases h with h | h; exact .inl (.inl h); exact .inr h)
 have HM1 : Hid True := trivial
 have HF1 := HF0
 have HGB1 : Hid (g + 1 ≤ w1.heap.size) := HC1.out.lt
 clear hd hc hk
 go_upto_region 2 with fail
 obtain ⟨b1, hbb⟩ : ∃ b, b = b0 := ⟨_, rfl⟩
 rw [← hbb] at HW1 HE1
 clear hbb
 have el := elems_mem w1 gr gp t1 b1 HW1.out HN1.out
 obtain ⟨LM, hL⟩ : ∃ L, L = (elL rdMbT b1 t1).1 := ⟨_, rfl⟩
 obtain ⟨t2, ht⟩ : ∃ L, L = (elL rdMbT b1 t1).2 := ⟨_, rfl⟩
 obtain ⟨b2, hb⟩ : ∃ L, L = elW b1 (rI t1).1 := ⟨_, rfl⟩
 have HQM : Hid (LM = (elL rdMbT (sW1 s) (sR1 s)).1) := by show _ = _; rw [← HE1.out.1, ← HE1.out.2]; exact hL
 have HE2 : Hid (t2 = sR2 s ∧ b2 = sW2 s) := by show _ ∧ _; unfold sR2 sW2; rw [← HE1.out.1, ← HE1.out.2]; exact ⟨ht, hb⟩
 have HN2 : Hid (t2.1.length ≤ 70368744177664) := by show _ ≤ _; rw [ht]; exact Nat.le_trans (elL_left rdMbT_left b1 t1) HN1.out
 have HX := Lh (⟨hL, ht, hb⟩ : _ ∧ _ ∧ _)
 clear hL ht hb
 go_wp2_with fail
 refine el.mono ?_
 clear el
 rintro e wv ⟨a1, n1, c1, rfl, ho, hw, hk⟩
 rw [← HX.out.1] at ho
 rw [← HX.out.2.1, ← HX.out.2.2] at hw
 have hc := HC1.out.keptH hk (fun e => by have := HH.out; omega)
 have hcell := hc.cell (j := 3) rfl
 have hfr := hc.frozen 3
 have hkS : Kept (fun k => k = g) wv (wv.setCell ⟨g, 3, none⟩ (.slice a1 n1 c1)) := (Kept.refl _ wv).setCell _ _ rfl
 have HOW : Hid (OwnR MbT.vs 3 86 (wv.setCell ⟨g, 3, none⟩ (.slice a1 n1 c1)) (g + 1) (.slice a1 n1 c1) LM) := OwnR.base (OwnR.keptS ho hkS (fun k hk (e : k = g) => by have := OwnR.ge ho k hk; have := HGB1.out; omega)) HGB1.out
 have HC2 : Hid (HT (wv.setCell ⟨g, 3, none⟩ (.slice a1 n1 c1)) g 41 [y0, y1, y2, .slice a1 n1 c1, (), (), (0:Int), (), (), (0:Int), (), (), (), (), ()]) := hc.put' 3 _ rfl
 have HW2 := Lh (hw.set 3 (.slice a1 n1 c1) HH.out.1)
 have HK2 : Hid (Kept (fun k => (k = gp ∨ k = gr) ∨ k = g) w (wv.setCell ⟨g, 3, none⟩ (.slice a1 n1 c1))) := (HK1.out.trans hk (fun _ _ h => .inl h)).trans hkS (fun _ _ h => .inr h)
 have HGB2 : Hid (g + 1 ≤ (wv.setCell ⟨g, 3, none⟩ (.slice a1 n1 c1)).heap.size) := HC2.out.lt
 obtain ⟨M1, hM⟩ : ∃ M : World → Prop, M = (fun x => OwnR MbT.vs 3 86 x (g + 1) (.slice a1 n1 c1) LM) := ⟨_, rfl⟩
 have HM2 : Hid (M1 (wv.setCell ⟨g, 3, none⟩ (.slice a1 n1 c1))) := by show M1 _; rw [hM]; exact HOW.out
 have HF2 : Hid (Firm (fun k => k < g + 1) M1) := by show Firm _ _; rw [hM]; exact Firm.own' (fun k e => by have := OwnR.ge HOW.out k e; show ¬ k < g + 1; omega)
 have HZ1 : Hid (∀ x, M1 x → OwnR MbT.vs 3 86 x (g + 1) (.slice a1 n1 c1) LM) := by intro x hx; rw [hM] at hx; exact hx
 clear hc hkS ho hw hk hM
 go_upto_region 3 with fail
 clear hcell hfr HX
 generalize hW : wv.setCell ⟨g, 3, none⟩ (.slice a1 n1 c1) = w2 at *
 clear hW HOW
 have el := elems_ins w2 gr gp t2 b2 HW2.out HN2.out
 obtain ⟨LI, hL⟩ : ∃ L, L = (elL rdInT b2 t2).1 := ⟨_, rfl⟩
 obtain ⟨t3, ht⟩ : ∃ L, L = (elL rdInT b2 t2).2 := ⟨_, rfl⟩
 obtain ⟨b3, hb⟩ : ∃ L, L = elW b2 (rI t2).1 := ⟨_, rfl⟩
 have HQI : Hid (LI = (elL rdInT (sW2 s) (sR2 s)).1) := by show _ = _; rw [← HE2.out.1, ← HE2.out.2]; exact hL
 have HE3 : Hid (t3 = sR3 s ∧ b3 = sW3 s) := by show _ ∧ _; unfold sR3 sW3; rw [← HE2.out.1, ← HE2.out.2]; exact ⟨ht, hb⟩
 have HN3 : Hid (t3.1.length ≤ 70368744177664) := by show _ ≤ _; rw [ht]; exact Nat.le_trans (elL_left rdInT_left b2 t2) HN2.out
 have HX := Lh (⟨hL, ht, hb⟩ : _ ∧ _ ∧ _)
 clear hL ht hb
 go_wp2_with fail
 refine el.mono ?_
 clear el
 rintro e wv ⟨a2, n2, c2, rfl, ho, hw, hk⟩
 rw [← HX.out.1] at ho
 rw [← HX.out.2.1, ← HX.out.2.2] at hw
 have hc := HC2.out.keptH hk (fun e => by have := HH.out; omega)
 have hcell := hc.cell (j := 4) rfl
 have hfr := hc.frozen 4
 have hkS : Kept (fun k => k = g) wv (wv.setCell ⟨g, 4, none⟩ (.slice a2 n2 c2)) := (Kept.refl _ wv).setCell _ _ rfl
 have HOW : Hid (OwnR InT.vs 12 88 (wv.setCell ⟨g, 4, none⟩ (.slice a2 n2 c2)) (g + 1) (.slice a2 n2 c2) LI) := OwnR.base (OwnR.keptS ho hkS (fun k hk (e : k = g) => by have := OwnR.ge ho k hk; have := HGB2.out; omega)) HGB2.out
 have HC3 : Hid (HT (wv.setCell ⟨g, 4, none⟩ (.slice a2 n2 c2)) g 41 [y0, y1, y2, .slice a1 n1 c1, .slice a2 n2 c2, (), (0:Int), (), (), (0:Int), (), (), (), (), ()]) := hc.put' 4 _ rfl
 have HW3 := Lh (hw.set 4 (.slice a2 n2 c2) HH.out.1)
 have HK3 : Hid (Kept (fun k => (k = gp ∨ k = gr) ∨ k = g) w (wv.setCell ⟨g, 4, none⟩ (.slice a2 n2 c2))) := (HK2.out.trans hk (fun _ _ h => .inl h)).trans hkS (fun _ _ h => .inr h)
 have HGB3 : Hid (g + 1 ≤ (wv.setCell ⟨g, 4, none⟩ (.slice a2 n2 c2)).heap.size) := HC3.out.lt
 obtain ⟨M2, hM⟩ : ∃ M : World → Prop, M = (fun x => M1 x ∧ OwnR InT.vs 12 88 x (g + 1) (.slice a2 n2 c2) LI) := ⟨_, rfl⟩
 have HM3 : Hid (M2 (wv.setCell ⟨g, 4, none⟩ (.slice a2 n2 c2))) := by show M2 _; rw [hM]; exact ⟨HF2.out _ _ (HF2.out _ _ HM2.out (hk.weaken (fun k e => by have := HH.out; show k < g + 1; rcases e with e | e <;> omega))) (hkS.weaken (fun k (e : k = g) => by show k < g + 1; omega)), HOW.out⟩
 have HF3 : Hid (Firm (fun k => k < g + 1) M2) := by show Firm _ _; rw [hM]; exact Firm.and HF2.out (Firm.own' (fun k e => by have := OwnR.ge HOW.out k e; show ¬ k < g + 1; omega))
 have HZ2 : Hid (∀ x, M2 x → M1 x ∧ OwnR InT.vs 12 88 x (g + 1) (.slice a2 n2 c2) LI) := by intro x hx; rw [hM] at hx; exact hx
 clear hc hkS ho hw hk hM
 go_upto_region 4 with fail
 clear hcell hfr HX
 generalize hW : wv.setCell ⟨g, 4, none⟩ (.slice a2 n2 c2) = w3 at *
 clear hW HOW
 have el := elems_ass w3 gr gp t3 b3 HW3.out HN3.out
 obtain ⟨LA, hL⟩ : ∃ L, L = (elL rdAsT b3 t3).1 := ⟨_, rfl⟩
 obtain ⟨t4, ht⟩ : ∃ L, L = (elL rdAsT b3 t3).2 := ⟨_, rfl⟩
 obtain ⟨b4, hb⟩ : ∃ L, L = elW b3 (rI t3).1 := ⟨_, rfl⟩
 have HQA : Hid (LA = (elL rdAsT (sW3 s) (sR3 s)).1) := by show _ = _; rw [← HE3.out.1, ← HE3.out.2]; exact hL
 have HE4 : Hid (t4 = sR4 s ∧ b4 = sW4 s) := by show _ ∧ _; unfold sR4 sW4; rw [← HE3.out.1, ← HE3.out.2]; exact ⟨ht, hb⟩
 have HN4 : Hid (t4.1.length ≤ 70368744177664) := by show _ ≤ _; rw [ht]; exact Nat.le_trans (elL_left rdAsT_left b3 t3) HN3.out
 have HX := Lh (⟨hL, ht, hb⟩ : _ ∧ _ ∧ _)
 clear hL ht hb
 go_wp2_with fail
 refine el.mono ?_
 clear el
 rintro e wv ⟨a3, n3, c3, rfl, ho, hw, hk⟩
 rw [← HX.out.1] at ho
 rw [← HX.out.2.1, ← HX.out.2.2] at hw
 have hc := HC3.out.keptH hk (fun e => by have := HH.out; omega)
 have hcell := hc.cell (j := 5) rfl
 have hfr := hc.frozen 5
 have hkS : Kept (fun k => k = g) wv (wv.setCell ⟨g, 5, none⟩ (.slice a3 n3 c3)) := (Kept.refl _ wv).setCell _ _ rfl
 have HOW : Hid (OwnR AsT.vs 4 91 (wv.setCell ⟨g, 5, none⟩ (.slice a3 n3 c3)) (g + 1) (.slice a3 n3 c3) LA) := OwnR.base (OwnR.keptS ho hkS (fun k hk (e : k = g) => by have := OwnR.ge ho k hk; have := HGB3.out; omega)) HGB3.out
 have HC4 : Hid (HT (wv.setCell ⟨g, 5, none⟩ (.slice a3 n3 c3)) g 41 [y0, y1, y2, .slice a1 n1 c1, .slice a2 n2 c2, .slice a3 n3 c3, (0:Int), (), (), (0:Int), (), (), (), (), ()]) := hc.put' 5 _ rfl
 have HW4 := Lh (hw.set 5 (.slice a3 n3 c3) HH.out.1)
 have HK4 : Hid (Kept (fun k => (k = gp ∨ k = gr) ∨ k = g) w (wv.setCell ⟨g, 5, none⟩ (.slice a3 n3 c3))) := (HK3.out.trans hk (fun _ _ h => .inl h)).trans hkS (fun _ _ h => .inr h)
 have HGB4 : Hid (g + 1 ≤ (wv.setCell ⟨g, 5, none⟩ (.slice a3 n3 c3)).heap.size) := HC4.out.lt
 obtain ⟨M3, hM⟩ : ∃ M : World → Prop, M = (fun x => M2 x ∧ OwnR AsT.vs 4 91 x (g + 1) (.slice a3 n3 c3) LA) := ⟨_, rfl⟩
 have HM4 : Hid (M3 (wv.setCell ⟨g, 5, none⟩ (.slice a3 n3 c3))) := by show M3 _; rw [hM]; exact ⟨HF3.out _ _ (HF3.out _ _ HM3.out (hk.weaken (fun k e => by have := HH.out; show k < g + 1; rcases e with e | e <;> omega))) (hkS.weaken (fun k (e : k = g) => by show k < g + 1; omega)), HOW.out⟩
 have HF4 : Hid (Firm (fun k => k < g + 1) M3) := by show Firm _ _; rw [hM]; exact Firm.and HF3.out (Firm.own' (fun k e => by have := OwnR.ge HOW.out k e; show ¬ k < g + 1; omega))
 have HZ3 : Hid (∀ x, M3 x → M2 x ∧ OwnR AsT.vs 4 91 x (g + 1) (.slice a3 n3 c3) LA) := by intro x hx; rw [hM] at hx; exact hx
 clear hc hkS ho hw hk hM
 go_upto_region 5 with fail
 clear hcell hfr HX
 generalize hW : wv.setCell ⟨g, 5, none⟩ (.slice a3 n3 c3) = w4 at *
 clear hW HOW
 obtain ⟨y3, hy⟩ : ∃ y3, (rIs 1 t4).1 = [y3] := by
  have h := rIs_len 1 t4
  generalize (rIs 1 t4).1 = L at h
  match L, h with
  | [a], _ => exact ⟨a, rfl⟩
 obtain ⟨t5, ht⟩ : ∃ t, t = (rIs 1 t4).2 := ⟨_, rfl⟩
 have HY4 : Hid ((rIs 1 (sR4 s)).1 = [y3]) := by show _ = _; rw [← HE4.out.1]; exact hy
 have HE5 : Hid (t5 = sR5 s ∧ b4 = sW5 s) := ⟨by unfold sR5; rw [← HE4.out.1]; exact ht, HE4.out.2⟩
 have HN5 : Hid (t5.1.length ≤ 70368744177664) := by show _ ≤ _; rw [ht]; exact Nat.le_trans (rIs_left 1 t4) HN4.out
 have hbx : Below w4.heap.size w4 (w4.alloc (.cells #[.pointer (some ⟨g, 6, none⟩)] 165)) := Bn
 have hs : ∀ i, i < 1 → (w4.alloc (.cells #[.pointer (some ⟨g, 6, none⟩)] 165)).cell? ⟨w4.heap.size, i, none⟩ = some (.pointer (some ⟨g, 6 + i, none⟩)) := by
  intro i hi
  have hh : (w4.alloc (.cells #[.pointer (some ⟨g, 6, none⟩)] 165)).heap[w4.heap.size]? = some (.cells #[.pointer (some ⟨g, 6, none⟩)] 165) := heap_alloc_new _ _
  unfold World.cell?
  rw [hh]
  rcases i with _ | i
  all_goals first | rfl | omega
 have it := into_any (w4.alloc (.cells #[.pointer (some ⟨g, 6, none⟩)] 165)) gr gp g w4.heap.size t4 6 1 [y0, y1, y2, .slice a1 n1 c1, .slice a2 n2 c2, .slice a3 n3 c3, (0:Int), (), (), (0:Int), (), (), (), (), ()] _ (HW4.out.below hbx).cell.1 (HW4.out.below hbx).2.1 (HC4.out.below hbx) hs (by simp) (by have := HH.out; omega) (by have := HH.out; omega) (by have := HH.out; omega) (by have := HH.out; have := HC4.out.lt; omega) (by have := HC4.out.lt; omega) (by omega) HN4.out
 rw [hy, ← ht] at it
 have HWA := Lh (HW4.out.below hbx)
 have HKA := Lh (HK4.out.alloc (.cells #[.pointer (some ⟨g, 6, none⟩)] 165))
 have HMA := Lh (Firm.below HF4.out HM4.out hbx)
 clear hy ht hbx hs
 go_wp2_with fail
 refine it.mono ?_
 clear it
 rintro e w5 ⟨rfl, hd, hc, hk⟩
 have HC5 : Hid (HT w5 g 41 [y0, y1, y2, .slice a1 n1 c1, .slice a2 n2 c2, .slice a3 n3 c3, y3, (), (), (0:Int), (), (), (), (), ()]) := hc
 have HW5 := Lh (HWA.out.go hd hk (fun e => by have := HH.out; omega))
 have HK5 : Hid (Kept (fun k => (k = gp ∨ k = gr) ∨ k = g) w w5) := HKA.out.trans hk (fun _ _ h => by rcases h with h | h; exact .inl (.inl h); exact .inr h)
 have HM5 : Hid (M3 w5) := HF4.out _ _ HMA.out (hk.weaken (fun k e => by have := HH.out; show k < g + 1; rcases e with e | e <;> omega))
 have HF5 := HF4
 have HGB5 : Hid (g + 1 ≤ w5.heap.size) := HC5.out.lt
 clear hd hc hk
 go_upto_region 6 with fail
 obtain ⟨b5, hbb⟩ : ∃ b, b = b4 := ⟨_, rfl⟩
 rw [← hbb] at HW5 HE5
 clear hbb
 have el := elems_trd w5 gr gp t5 b5 HW5.out HN5.out
 obtain ⟨LT, hL⟩ : ∃ L, L = (elL rdTrT b5 t5).1 := ⟨_, rfl⟩
 obtain ⟨t6, ht⟩ : ∃ L, L = (elL rdTrT b5 t5).2 := ⟨_, rfl⟩
 obtain ⟨b6, hb⟩ : ∃ L, L = elW b5 (rI t5).1 := ⟨_, rfl⟩
 have HQT : Hid (LT = (elL rdTrT (sW5 s) (sR5 s)).1) := by show _ = _; rw [← HE5.out.1, ← HE5.out.2]; exact hL
 have HE6 : Hid (t6 = sR6 s ∧ b6 = sW6 s) := by show _ ∧ _; unfold sR6 sW6; rw [← HE5.out.1, ← HE5.out.2]; exact ⟨ht, hb⟩
 have HN6 : Hid (t6.1.length ≤ 70368744177664) := by show _ ≤ _; rw [ht]; exact Nat.le_trans (elL_left rdTrT_left b5 t5) HN5.out
 have HX := Lh (⟨hL, ht, hb⟩ : _ ∧ _ ∧ _)
 clear hL ht hb
 go_wp2_with fail
 refine el.mono ?_
 clear el
 rintro e wv ⟨a4, n4, c4, rfl, ho, hw, hk⟩
 rw [← HX.out.1] at ho
 rw [← HX.out.2.1, ← HX.out.2.2] at hw
 have hc := HC5.out.keptH hk (fun e => by have := HH.out; omega)
 have hcell := hc.cell (j := 7) rfl
 have hfr := hc.frozen 7
 have hkS : Kept (fun k => k = g) wv (wv.setCell ⟨g, 7, none⟩ (.slice a4 n4 c4)) := (Kept.refl _ wv).setCell _ _ rfl
 have HOW : Hid (OwnR TrT.vs 7 93 (wv.setCell ⟨g, 7, none⟩ (.slice a4 n4 c4)) (g + 1) (.slice a4 n4 c4) LT) := OwnR.base (OwnR.keptS ho hkS (fun k hk (e : k = g) => by have := OwnR.ge ho k hk; have := HGB5.out; omega)) HGB5.out
 have HC6 : Hid (HT (wv.setCell ⟨g, 7, none⟩ (.slice a4 n4 c4)) g 41 [y0, y1, y2, .slice a1 n1 c1, .slice a2 n2 c2, .slice a3 n3 c3, y3, .slice a4 n4 c4, (), (0:Int), (), (), (), (), ()]) := hc.put' 7 _ rfl
 have HW6 := Lh (hw.set 7 (.slice a4 n4 c4) HH.out.1)
 have HK6 : Hid (Kept (fun k => (k = gp ∨ k = gr) ∨ k = g) w (wv.setCell ⟨g, 7, none⟩ (.slice a4 n4 c4))) := (HK5.out.trans hk (fun _ _ h => .inl h)).trans hkS (fun _ _ h => .inr h)
 have HGB6 : Hid (g + 1 ≤ (wv.setCell ⟨g, 7, none⟩ (.slice a4 n4 c4)).heap.size) := HC6.out.lt
 obtain ⟨M4, hM⟩ : ∃ M : World → Prop, M = (fun x => M3 x ∧ OwnR TrT.vs 7 93 x (g + 1) (.slice a4 n4 c4) LT) := ⟨_, rfl⟩
 have HM6 : Hid (M4 (wv.setCell ⟨g, 7, none⟩ (.slice a4 n4 c4))) := by show M4 _; rw [hM]; exact ⟨HF5.out _ _ (HF5.out _ _ HM5.out (hk.weaken (fun k e => by have := HH.out; show k < g + 1; rcases e with e | e <;> omega))) (hkS.weaken (fun k (e : k = g) => by show k < g + 1; omega)), HOW.out⟩
 have HF6 : Hid (Firm (fun k => k < g + 1) M4) := by show Firm _ _; rw [hM]; exact Firm.and HF5.out (Firm.own' (fun k e => by have := OwnR.ge HOW.out k e; show ¬ k < g + 1; omega))
 have HZ4 : Hid (∀ x, M4 x → M3 x ∧ OwnR TrT.vs 7 93 x (g + 1) (.slice a4 n4 c4) LT) := by intro x hx; rw [hM] at hx; exact hx
 clear hc hkS ho hw hk hM
 go_upto_region 7 with fail
 clear hcell hfr HX
 generalize hW : wv.setCell ⟨g, 7, none⟩ (.slice a4 n4 c4) = w6 at *
 clear hW HOW
 have el := elems_pos w6 gr gp t6 b6 HW6.out HN6.out
 obtain ⟨LP, hL⟩ : ∃ L, L = (elL rdPoT b6 t6).1 := ⟨_, rfl⟩
 obtain ⟨t7, ht⟩ : ∃ L, L = (elL rdPoT b6 t6).2 := ⟨_, rfl⟩
 obtain ⟨b7, hb⟩ : ∃ L, L = elW b6 (rI t6).1 := ⟨_, rfl⟩
 have HQP : Hid (LP = (elL rdPoT (sW6 s) (sR6 s)).1) := by show _ = _; rw [← HE6.out.1, ← HE6.out.2]; exact hL
 have HE7 : Hid (t7 = sR7 s ∧ b7 = sW7 s) := by show _ ∧ _; unfold sR7 sW7; rw [← HE6.out.1, ← HE6.out.2]; exact ⟨ht, hb⟩
 have HN7 : Hid (t7.1.length ≤ 70368744177664) := by show _ ≤ _; rw [ht]; exact Nat.le_trans (elL_left rdPoT_left b6 t6) HN6.out
 have HX := Lh (⟨hL, ht, hb⟩ : _ ∧ _ ∧ _)
 clear hL ht hb
 go_wp2_with fail
 refine el.mono ?_
 clear el
 rintro e wv ⟨a5, n5, c5, rfl, ho, hw, hk⟩
 rw [← HX.out.1] at ho
 rw [← HX.out.2.1, ← HX.out.2.2] at hw
 have hc := HC6.out.keptH hk (fun e => by have := HH.out; omega)
 have hcell := hc.cell (j := 8) rfl
 have hfr := hc.frozen 8
 have hkS : Kept (fun k => k = g) wv (wv.setCell ⟨g, 8, none⟩ (.slice a5 n5 c5)) := (Kept.refl _ wv).setCell _ _ rfl
 have HOW : Hid (OwnR PoT.vs 4 98 (wv.setCell ⟨g, 8, none⟩ (.slice a5 n5 c5)) (g + 1) (.slice a5 n5 c5) LP) := OwnR.base (OwnR.keptS ho hkS (fun k hk (e : k = g) => by have := OwnR.ge ho k hk; have := HGB6.out; omega)) HGB6.out
 have HC7 : Hid (HT (wv.setCell ⟨g, 8, none⟩ (.slice a5 n5 c5)) g 41 [y0, y1, y2, .slice a1 n1 c1, .slice a2 n2 c2, .slice a3 n3 c3, y3, .slice a4 n4 c4, .slice a5 n5 c5, (0:Int), (), (), (), (), ()]) := hc.put' 8 _ rfl
 have HW7 := Lh (hw.set 8 (.slice a5 n5 c5) HH.out.1)
 have HK7 : Hid (Kept (fun k => (k = gp ∨ k = gr) ∨ k = g) w (wv.setCell ⟨g, 8, none⟩ (.slice a5 n5 c5))) := (HK6.out.trans hk (fun _ _ h => .inl h)).trans hkS (fun _ _ h => .inr h)
 have HGB7 : Hid (g + 1 ≤ (wv.setCell ⟨g, 8, none⟩ (.slice a5 n5 c5)).heap.size) := HC7.out.lt
 obtain ⟨M5, hM⟩ : ∃ M : World → Prop, M = (fun x => M4 x ∧ OwnR PoT.vs 4 98 x (g + 1) (.slice a5 n5 c5) LP) := ⟨_, rfl⟩
 have HM7 : Hid (M5 (wv.setCell ⟨g, 8, none⟩ (.slice a5 n5 c5))) := by show M5 _; rw [hM]; exact ⟨HF6.out _ _ (HF6.out _ _ HM6.out (hk.weaken (fun k e => by have := HH.out; show k < g + 1; rcases e with e | e <;> omega))) (hkS.weaken (fun k (e : k = g) => by show k < g + 1; omega)), HOW.out⟩
 have HF7 : Hid (Firm (fun k => k < g + 1) M5) := by show Firm _ _; rw [hM]; exact Firm.and HF6.out (Firm.own' (fun k e => by have := OwnR.ge HOW.out k e; show ¬ k < g + 1; omega))
 have HZ5 : Hid (∀ x, M5 x → M4 x ∧ OwnR PoT.vs 4 98 x (g + 1) (.slice a5 n5 c5) LP) := by intro x hx; rw [hM] at hx; exact hx
 clear hc hkS ho hw hk hM
 go_upto_region 8 with fail
 clear hcell hfr HX
 generalize hW : wv.setCell ⟨g, 8, none⟩ (.slice a5 n5 c5) = w7 at *
 clear hW HOW
 obtain ⟨y4, hy⟩ : ∃ y4, (rIs 1 t7).1 = [y4] := by
  have h := rIs_len 1 t7
  generalize (rIs 1 t7).1 = L at h
  match L, h with
  | [a], _ => exact ⟨a, rfl⟩
 obtain ⟨t8, ht⟩ : ∃ t, t = (rIs 1 t7).2 := ⟨_, rfl⟩
 have HY7 : Hid ((rIs 1 (sR7 s)).1 = [y4]) := by show _ = _; rw [← HE7.out.1]; exact hy
 have HE8 : Hid (t8 = sR8 s ∧ b7 = sW8 s) := ⟨by unfold sR8; rw [← HE7.out.1]; exact ht, HE7.out.2⟩
 have HN8 : Hid (t8.1.length ≤ 70368744177664) := by show _ ≤ _; rw [ht]; exact Nat.le_trans (rIs_left 1 t7) HN7.out
 have hbx : Below w7.heap.size w7 (w7.alloc (.cells #[.pointer (some ⟨g, 9, none⟩)] 165)) := Bn
 have hs : ∀ i, i < 1 → (w7.alloc (.cells #[.pointer (some ⟨g, 9, none⟩)] 165)).cell? ⟨w7.heap.size, i, none⟩ = some (.pointer (some ⟨g, 9 + i, none⟩)) := by
  intro i hi
  have hh : (w7.alloc (.cells #[.pointer (some ⟨g, 9, none⟩)] 165)).heap[w7.heap.size]? = some (.cells #[.pointer (some ⟨g, 9, none⟩)] 165) := heap_alloc_new _ _
  unfold World.cell?
  rw [hh]
  rcases i with _ | i
  all_goals first | rfl | omega
 have it := into_any (w7.alloc (.cells #[.pointer (some ⟨g, 9, none⟩)] 165)) gr gp g w7.heap.size t7 9 1 [y0, y1, y2, .slice a1 n1 c1, .slice a2 n2 c2, .slice a3 n3 c3, y3, .slice a4 n4 c4, .slice a5 n5 c5, (0:Int), (), (), (), (), ()] _ (HW7.out.below hbx).cell.1 (HW7.out.below hbx).2.1 (HC7.out.below hbx) hs (by simp) (by have := HH.out; omega) (by have := HH.out; omega) (by have := HH.out; omega) (by have := HH.out; have := HC7.out.lt; omega) (by have := HC7.out.lt; omega) (by omega) HN7.out
 rw [hy, ← ht] at it
 have HWA := Lh (HW7.out.below hbx)
 have HKA := Lh (HK7.out.alloc (.cells #[.pointer (some ⟨g, 9, none⟩)] 165))
 have HMA := Lh (Firm.below HF7.out HM7.out hbx)
 clear hy ht hbx hs
 go_wp2_with fail
 refine it.mono ?_
 clear it
 rintro e w8 ⟨rfl, hd, hc, hk⟩
 have HC8 : Hid (HT w8 g 41 [y0, y1, y2, .slice a1 n1 c1, .slice a2 n2 c2, .slice a3 n3 c3, y3, .slice a4 n4 c4, .slice a5 n5 c5, y4, (), (), (), (), ()]) := hc
 have HW8 := Lh (HWA.out.go hd hk (fun e => by have := HH.out; omega))
 have HK8 : Hid (Kept (fun k => (k = gp ∨ k = gr) ∨ k = g) w w8) := HKA.out.trans hk (fun _ _ h => by rcases h with h | h; exact .inl (.inl h); exact .inr h)
 have HM8 : Hid (M5 w8) := HF7.out _ _ HMA.out (hk.weaken (fun k e => by have := HH.out; show k < g + 1; rcases e with e | e <;> omega))
 have HF8 := HF7
 have HGB8 : Hid (g + 1 ≤ w8.heap.size) := HC8.out.lt
 clear hd hc hk
 go_upto_region 9 with fail
 obtain ⟨b8, hbb⟩ : ∃ b, b = b7 := ⟨_, rfl⟩
 rw [← hbb] at HW8 HE8
 clear hbb
 have el := elems_bal w8 gr gp t8 b8 HW8.out HN8.out
 obtain ⟨LB, hL⟩ : ∃ L, L = (elL rdBaT b8 t8).1 := ⟨_, rfl⟩
 obtain ⟨t9, ht⟩ : ∃ L, L = (elL rdBaT b8 t8).2 := ⟨_, rfl⟩
 obtain ⟨b9, hb⟩ : ∃ L, L = elW b8 (rI t8).1 := ⟨_, rfl⟩
 have HQB : Hid (LB = (elL rdBaT (sW8 s) (sR8 s)).1) := by show _ = _; rw [← HE8.out.1, ← HE8.out.2]; exact hL
 have HE9 : Hid (t9 = sR9 s ∧ b9 = sW9 s) := by show _ ∧ _; unfold sR9 sW9; rw [← HE8.out.1, ← HE8.out.2]; exact ⟨ht, hb⟩
 have HN9 : Hid (t9.1.length ≤ 70368744177664) := by show _ ≤ _; rw [ht]; exact Nat.le_trans (elL_left rdBaT_left b8 t8) HN8.out
 have HX := Lh (⟨hL, ht, hb⟩ : _ ∧ _ ∧ _)
 clear hL ht hb
 go_wp2_with fail
 refine el.mono ?_
 clear el
 rintro e wv ⟨a6, n6, c6, rfl, ho, hw, hk⟩
 rw [← HX.out.1] at ho
 rw [← HX.out.2.1, ← HX.out.2.2] at hw
 have hc := HC8.out.keptH hk (fun e => by have := HH.out; omega)
 have hcell := hc.cell (j := 10) rfl
 have hfr := hc.frozen 10
 have hkS : Kept (fun k => k = g) wv (wv.setCell ⟨g, 10, none⟩ (.slice a6 n6 c6)) := (Kept.refl _ wv).setCell _ _ rfl
 have HOW : Hid (OwnR BaT.vs 4 102 (wv.setCell ⟨g, 10, none⟩ (.slice a6 n6 c6)) (g + 1) (.slice a6 n6 c6) LB) := OwnR.base (OwnR.keptS ho hkS (fun k hk (e : k = g) => by have := OwnR.ge ho k hk; have := HGB8.out; omega)) HGB8.out
 have HC9 : Hid (HT (wv.setCell ⟨g, 10, none⟩ (.slice a6 n6 c6)) g 41 [y0, y1, y2, .slice a1 n1 c1, .slice a2 n2 c2, .slice a3 n3 c3, y3, .slice a4 n4 c4, .slice a5 n5 c5, y4, .slice a6 n6 c6, (), (), (), ()]) := hc.put' 10 _ rfl
 have HW9 := Lh (hw.set 10 (.slice a6 n6 c6) HH.out.1)
 have HK9 : Hid (Kept (fun k => (k = gp ∨ k = gr) ∨ k = g) w (wv.setCell ⟨g, 10, none⟩ (.slice a6 n6 c6))) := (HK8.out.trans hk (fun _ _ h => .inl h)).trans hkS (fun _ _ h => .inr h)
 have HGB9 : Hid (g + 1 ≤ (wv.setCell ⟨g, 10, none⟩ (.slice a6 n6 c6)).heap.size) := HC9.out.lt
 obtain ⟨M6, hM⟩ : ∃ M : World → Prop, M = (fun x => M5 x ∧ OwnR BaT.vs 4 102 x (g + 1) (.slice a6 n6 c6) LB) := ⟨_, rfl⟩
 have HM9 : Hid (M6 (wv.setCell ⟨g, 10, none⟩ (.slice a6 n6 c6))) := by show M6 _; rw [hM]; exact ⟨HF8.out _ _ (HF8.out _ _ HM8.out (hk.weaken (fun k e => by have := HH.out; show k < g + 1; rcases e with e | e <;> omega))) (hkS.weaken (fun k (e : k = g) => by show k < g + 1; omega)), HOW.out⟩
 have HF9 : Hid (Firm (fun k => k < g + 1) M6) := by show Firm _ _; rw [hM]; exact Firm.and HF8.out (Firm.own' (fun k e => by have := OwnR.ge HOW.out k e; show ¬ k < g + 1; omega))
 have HZ6 : Hid (∀ x, M6 x → M5 x ∧ OwnR BaT.vs 4 102 x (g + 1) (.slice a6 n6 c6) LB) := by intro x hx; rw [hM] at hx; exact hx
 clear hc hkS ho hw hk hM
 go_upto_region 10 with fail
 clear hcell hfr HX
 generalize hW : wv.setCell ⟨g, 10, none⟩ (.slice a6 n6 c6) = w9 at *
 clear hW HOW
 have el := elems_ple w9 gr gp t9 b9 HW9.out HN9.out
 obtain ⟨LG, hL⟩ : ∃ L, L = (elL rdPlT b9 t9).1 := ⟨_, rfl⟩
 obtain ⟨t10, ht⟩ : ∃ L, L = (elL rdPlT b9 t9).2 := ⟨_, rfl⟩
 obtain ⟨b10, hb⟩ : ∃ L, L = elW b9 (rI t9).1 := ⟨_, rfl⟩
 have HQG : Hid (LG = (elL rdPlT (sW9 s) (sR9 s)).1) := by show _ = _; rw [← HE9.out.1, ← HE9.out.2]; exact hL
 have HE10 : Hid (t10 = sR10 s ∧ b10 = sW10 s) := by show _ ∧ _; unfold sR10 sW10; rw [← HE9.out.1, ← HE9.out.2]; exact ⟨ht, hb⟩
 have HN10 : Hid (t10.1.length ≤ 70368744177664) := by show _ ≤ _; rw [ht]; exact Nat.le_trans (elL_left rdPlT_left b9 t9) HN9.out
 have HX := Lh (⟨hL, ht, hb⟩ : _ ∧ _ ∧ _)
 clear hL ht hb
 go_wp2_with fail
 refine el.mono ?_
 clear el
 rintro e wv ⟨a7, n7, c7, rfl, ho, hw, hk⟩
 rw [← HX.out.1] at ho
 rw [← HX.out.2.1, ← HX.out.2.2] at hw
 have hc := HC9.out.keptH hk (fun e => by have := HH.out; omega)
 have hcell := hc.cell (j := 11) rfl
 have hfr := hc.frozen 11
 have hkS : Kept (fun k => k = g) wv (wv.setCell ⟨g, 11, none⟩ (.slice a7 n7 c7)) := (Kept.refl _ wv).setCell _ _ rfl
 have HOW : Hid (OwnR PlT.vs 3 104 (wv.setCell ⟨g, 11, none⟩ (.slice a7 n7 c7)) (g + 1) (.slice a7 n7 c7) LG) := OwnR.base (OwnR.keptS ho hkS (fun k hk (e : k = g) => by have := OwnR.ge ho k hk; have := HGB9.out; omega)) HGB9.out
 have HC10 : Hid (HT (wv.setCell ⟨g, 11, none⟩ (.slice a7 n7 c7)) g 41 [y0, y1, y2, .slice a1 n1 c1, .slice a2 n2 c2, .slice a3 n3 c3, y3, .slice a4 n4 c4, .slice a5 n5 c5, y4, .slice a6 n6 c6, .slice a7 n7 c7, (), (), ()]) := hc.put' 11 _ rfl
 have HW10 := Lh (hw.set 11 (.slice a7 n7 c7) HH.out.1)
 have HK10 : Hid (Kept (fun k => (k = gp ∨ k = gr) ∨ k = g) w (wv.setCell ⟨g, 11, none⟩ (.slice a7 n7 c7))) := (HK9.out.trans hk (fun _ _ h => .inl h)).trans hkS (fun _ _ h => .inr h)
 have HGB10 : Hid (g + 1 ≤ (wv.setCell ⟨g, 11, none⟩ (.slice a7 n7 c7)).heap.size) := HC10.out.lt
 obtain ⟨M7, hM⟩ : ∃ M : World → Prop, M = (fun x => M6 x ∧ OwnR PlT.vs 3 104 x (g + 1) (.slice a7 n7 c7) LG) := ⟨_, rfl⟩
 have HM10 : Hid (M7 (wv.setCell ⟨g, 11, none⟩ (.slice a7 n7 c7))) := by show M7 _; rw [hM]; exact ⟨HF9.out _ _ (HF9.out _ _ HM9.out (hk.weaken (fun k e => by have := HH.out; show k < g + 1; rcases e with e | e <;> omega))) (hkS.weaken (fun k (e : k = g) => by show k < g + 1; omega)), HOW.out⟩
 have HF10 : Hid (Firm (fun k => k < g + 1) M7) := by show Firm _ _; rw [hM]; exact Firm.and HF9.out (Firm.own' (fun k e => by have := OwnR.ge HOW.out k e; show ¬ k < g + 1; omega))
 have HZ7 : Hid (∀ x, M7 x → M6 x ∧ OwnR PlT.vs 3 104 x (g + 1) (.slice a7 n7 c7) LG) := by intro x hx; rw [hM] at hx; exact hx
 clear hc hkS ho hw hk hM
 go_upto_region 11 with fail
 clear hcell hfr HX
 generalize hW : wv.setCell ⟨g, 11, none⟩ (.slice a7 n7 c7) = w10 at *
 clear hW HOW
 have el := elems_cal w10 gr gp t10 b10 HW10.out HN10.out
 obtain ⟨LC, hL⟩ : ∃ L, L = (elL rdCaT b10 t10).1 := ⟨_, rfl⟩
 obtain ⟨t11, ht⟩ : ∃ L, L = (elL rdCaT b10 t10).2 := ⟨_, rfl⟩
 obtain ⟨b11, hb⟩ : ∃ L, L = elW b10 (rI t10).1 := ⟨_, rfl⟩
 have HQC : Hid (LC = (elL rdCaT (sW10 s) (sR10 s)).1) := by show _ = _; rw [← HE10.out.1, ← HE10.out.2]; exact hL
 have HE11 : Hid (t11 = sR11 s ∧ b11 = sW11 s) := by show _ ∧ _; unfold sR11 sW11; rw [← HE10.out.1, ← HE10.out.2]; exact ⟨ht, hb⟩
 have HN11 : Hid (t11.1.length ≤ 70368744177664) := by show _ ≤ _; rw [ht]; exact Nat.le_trans (elL_left rdCaT_left b10 t10) HN10.out
 have HX := Lh (⟨hL, ht, hb⟩ : _ ∧ _ ∧ _)
 clear hL ht hb
 go_wp2_with fail
 refine el.mono ?_
 clear el
 rintro e wv ⟨a8, n8, c8, rfl, ho, hw, hk⟩
 rw [← HX.out.1] at ho
 rw [← HX.out.2.1, ← HX.out.2.2] at hw
 have hc := HC10.out.keptH hk (fun e => by have := HH.out; omega)
 have hcell := hc.cell (j := 12) rfl
 have hfr := hc.frozen 12
 have hkS : Kept (fun k => k = g) wv (wv.setCell ⟨g, 12, none⟩ (.slice a8 n8 c8)) := (Kept.refl _ wv).setCell _ _ rfl
 have HOW : Hid (OwnR CaT.vs 4 108 (wv.setCell ⟨g, 12, none⟩ (.slice a8 n8 c8)) (g + 1) (.slice a8 n8 c8) LC) := OwnR.base (OwnR.keptS ho hkS (fun k hk (e : k = g) => by have := OwnR.ge ho k hk; have := HGB10.out; omega)) HGB10.out
 have HC11 : Hid (HT (wv.setCell ⟨g, 12, none⟩ (.slice a8 n8 c8)) g 41 [y0, y1, y2, .slice a1 n1 c1, .slice a2 n2 c2, .slice a3 n3 c3, y3, .slice a4 n4 c4, .slice a5 n5 c5, y4, .slice a6 n6 c6, .slice a7 n7 c7, .slice a8 n8 c8, (), ()]) := hc.put' 12 _ rfl
 have HW11 := Lh (hw.set 12 (.slice a8 n8 c8) HH.out.1)
 have HK11 : Hid (Kept (fun k => (k = gp ∨ k = gr) ∨ k = g) w (wv.setCell ⟨g, 12, none⟩ (.slice a8 n8 c8))) := (HK10.out.trans hk (fun _ _ h => .inl h)).trans hkS (fun _ _ h => .inr h)
 have HGB11 : Hid (g + 1 ≤ (wv.setCell ⟨g, 12, none⟩ (.slice a8 n8 c8)).heap.size) := HC11.out.lt
 obtain ⟨M8, hM⟩ : ∃ M : World → Prop, M = (fun x => M7 x ∧ OwnR CaT.vs 4 108 x (g + 1) (.slice a8 n8 c8) LC) := ⟨_, rfl⟩
 have HM11 : Hid (M8 (wv.setCell ⟨g, 12, none⟩ (.slice a8 n8 c8))) := by show M8 _; rw [hM]; exact ⟨HF10.out _ _ (HF10.out _ _ HM10.out (hk.weaken (fun k e => by have := HH.out; show k < g + 1; rcases e with e | e <;> omega))) (hkS.weaken (fun k (e : k = g) => by show k < g + 1; omega)), HOW.out⟩
 have HF11 : Hid (Firm (fun k => k < g + 1) M8) := by show Firm _ _; rw [hM]; exact Firm.and HF10.out (Firm.own' (fun k e => by have := OwnR.ge HOW.out k e; show ¬ k < g + 1; omega))
 have HZ8 : Hid (∀ x, M8 x → M7 x ∧ OwnR CaT.vs 4 108 x (g + 1) (.slice a8 n8 c8) LC) := by intro x hx; rw [hM] at hx; exact hx
 clear hc hkS ho hw hk hM
 go_upto_region 12 with fail
 clear hcell hfr HX
 generalize hW : wv.setCell ⟨g, 12, none⟩ (.slice a8 n8 c8) = w11 at *
 clear hW HOW
 have el := elems_bid w11 gr gp t11 b11 HW11.out HN11.out
 obtain ⟨LD, hL⟩ : ∃ L, L = (elL rdBiT b11 t11).1 := ⟨_, rfl⟩
 obtain ⟨t12, ht⟩ : ∃ L, L = (elL rdBiT b11 t11).2 := ⟨_, rfl⟩
 obtain ⟨b12, hb⟩ : ∃ L, L = elW b11 (rI t11).1 := ⟨_, rfl⟩
 have HQD : Hid (LD = (elL rdBiT (sW11 s) (sR11 s)).1) := by show _ = _; rw [← HE11.out.1, ← HE11.out.2]; exact hL
 have HE12 : Hid (t12 = sR12 s ∧ b12 = sW12 s) := by show _ ∧ _; unfold sR12 sW12; rw [← HE11.out.1, ← HE11.out.2]; exact ⟨ht, hb⟩
 have HN12 : Hid (t12.1.length ≤ 70368744177664) := by show _ ≤ _; rw [ht]; exact Nat.le_trans (elL_left rdBiT_left b11 t11) HN11.out
 have HX := Lh (⟨hL, ht, hb⟩ : _ ∧ _ ∧ _)
 clear hL ht hb
 go_wp2_with fail
 refine el.mono ?_
 clear el
 rintro e wv ⟨a9, n9, c9, rfl, ho, hw, hk⟩
 rw [← HX.out.1] at ho
 rw [← HX.out.2.1, ← HX.out.2.2] at hw
 have hc := HC11.out.keptH hk (fun e => by have := HH.out; omega)
 have hcell := hc.cell (j := 13) rfl
 have hfr := hc.frozen 13
 have hkS : Kept (fun k => k = g) wv (wv.setCell ⟨g, 13, none⟩ (.slice a9 n9 c9)) := (Kept.refl _ wv).setCell _ _ rfl
 have HOW : Hid (OwnR BiT.vs 5 110 (wv.setCell ⟨g, 13, none⟩ (.slice a9 n9 c9)) (g + 1) (.slice a9 n9 c9) LD) := OwnR.base (OwnR.keptS ho hkS (fun k hk (e : k = g) => by have := OwnR.ge ho k hk; have := HGB11.out; omega)) HGB11.out
 have HC12 : Hid (HT (wv.setCell ⟨g, 13, none⟩ (.slice a9 n9 c9)) g 41 [y0, y1, y2, .slice a1 n1 c1, .slice a2 n2 c2, .slice a3 n3 c3, y3, .slice a4 n4 c4, .slice a5 n5 c5, y4, .slice a6 n6 c6, .slice a7 n7 c7, .slice a8 n8 c8, .slice a9 n9 c9, ()]) := hc.put' 13 _ rfl
 have HW12 := Lh (hw.set 13 (.slice a9 n9 c9) HH.out.1)
 have HK12 : Hid (Kept (fun k => (k = gp ∨ k = gr) ∨ k = g) w (wv.setCell ⟨g, 13, none⟩ (.slice a9 n9 c9))) := (HK11.out.trans hk (fun _ _ h => .inl h)).trans hkS (fun _ _ h => .inr h)
 have HGB12 : Hid (g + 1 ≤ (wv.setCell ⟨g, 13, none⟩ (.slice a9 n9 c9)).heap.size) := HC12.out.lt
 obtain ⟨M9, hM⟩ : ∃ M : World → Prop, M = (fun x => M8 x ∧ OwnR BiT.vs 5 110 x (g + 1) (.slice a9 n9 c9) LD) := ⟨_, rfl⟩
 have HM12 : Hid (M9 (wv.setCell ⟨g, 13, none⟩ (.slice a9 n9 c9))) := by show M9 _; rw [hM]; exact ⟨HF11.out _ _ (HF11.out _ _ HM11.out (hk.weaken (fun k e => by have := HH.out; show k < g + 1; rcases e with e | e <;> omega))) (hkS.weaken (fun k (e : k = g) => by show k < g + 1; omega)), HOW.out⟩
 have HF12 : Hid (Firm (fun k => k < g + 1) M9) := by show Firm _ _; rw [hM]; exact Firm.and HF11.out (Firm.own' (fun k e => by have := OwnR.ge HOW.out k e; show ¬ k < g + 1; omega))
 have HZ9 : Hid (∀ x, M9 x → M8 x ∧ OwnR BiT.vs 5 110 x (g + 1) (.slice a9 n9 c9) LD) := by intro x hx; rw [hM] at hx; exact hx
 clear hc hkS ho hw hk hM
 go_upto_region 13 with fail
 clear hcell hfr HX
 generalize hW : wv.setCell ⟨g, 13, none⟩ (.slice a9 n9 c9) = w12 at *
 clear hW HOW
 have el := elems_sea w12 gr gp t12 b12 HW12.out HN12.out
 obtain ⟨LS, hL⟩ : ∃ L, L = (seL b12 t12).1 := ⟨_, rfl⟩
 obtain ⟨t13, ht⟩ : ∃ L, L = (seL b12 t12).2.1 := ⟨_, rfl⟩
 obtain ⟨b13, hb⟩ : ∃ L, L = (seL b12 t12).2.2 := ⟨_, rfl⟩
 have HQS : Hid (LS = (seL (sW12 s) (sR12 s)).1) := by show _ = _; rw [← HE12.out.1, ← HE12.out.2]; exact hL
 have HE13 : Hid (t13 = sR13 s ∧ b13 = sW13 s) := by show _ ∧ _; unfold sR13 sW13; rw [← HE12.out.1, ← HE12.out.2]; exact ⟨ht, hb⟩
 have HX := Lh (⟨hL, ht, hb⟩ : _ ∧ _ ∧ _)
 clear hL ht hb
 go_wp2_with fail
 refine el.mono ?_
 clear el
 rintro e wv ⟨a10, n10, c10, LSV, rfl, ho, hw, hk⟩
 rw [← HX.out.1] at ho
 rw [← HX.out.2.1, ← HX.out.2.2] at hw
 have hc := HC12.out.keptH hk (fun e => by have := HH.out; omega)
 have hcell := hc.cell (j := 14) rfl
 have hfr := hc.frozen 14
 have hkS : Kept (fun k => k = g) wv (wv.setCell ⟨g, 14, none⟩ (.slice a10 n10 c10)) := (Kept.refl _ wv).setCell _ _ rfl
 have HOW : Hid (SeOwn (wv.setCell ⟨g, 14, none⟩ (.slice a10 n10 c10)) (g + 1) (.slice a10 n10 c10) LSV LS) := SeOwn.base (SeOwn.kept ho hkS (fun k hk _ (e : k = g) => by have := HGB12.out; omega)) HGB12.out
 have HC13 : Hid (HT (wv.setCell ⟨g, 14, none⟩ (.slice a10 n10 c10)) g 41 [y0, y1, y2, .slice a1 n1 c1, .slice a2 n2 c2, .slice a3 n3 c3, y3, .slice a4 n4 c4, .slice a5 n5 c5, y4, .slice a6 n6 c6, .slice a7 n7 c7, .slice a8 n8 c8, .slice a9 n9 c9, .slice a10 n10 c10]) := hc.put' 14 _ rfl
 have HW13 := Lh (hw.set 14 (.slice a10 n10 c10) HH.out.1)
 have HK13 : Hid (Kept (fun k => (k = gp ∨ k = gr) ∨ k = g) w (wv.setCell ⟨g, 14, none⟩ (.slice a10 n10 c10))) := (HK12.out.trans hk (fun _ _ h => .inl h)).trans hkS (fun _ _ h => .inr h)
 have HGB13 : Hid (g + 1 ≤ (wv.setCell ⟨g, 14, none⟩ (.slice a10 n10 c10)).heap.size) := HC13.out.lt
 obtain ⟨M10, hM⟩ : ∃ M : World → Prop, M = (fun x => M9 x ∧ SeOwn x (g + 1) (.slice a10 n10 c10) LSV LS) := ⟨_, rfl⟩
 have HM13 : Hid (M10 (wv.setCell ⟨g, 14, none⟩ (.slice a10 n10 c10))) := by show M10 _; rw [hM]; exact ⟨HF12.out _ _ (HF12.out _ _ HM12.out (hk.weaken (fun k e => by have := HH.out; show k < g + 1; rcases e with e | e <;> omega))) (hkS.weaken (fun k (e : k = g) => by show k < g + 1; omega)), HOW.out⟩
 have HF13 : Hid (Firm (fun k => k < g + 1) M10) := by show Firm _ _; rw [hM]; exact Firm.and HF12.out (fun _ _ hm hk => SeOwn.kept hm hk (fun k hk _ (e : k < g + 1) => by omega))
 have HZ10 : Hid (∀ x, M10 x → M9 x ∧ SeOwn x (g + 1) (.slice a10 n10 c10) LSV LS) := by intro x hx; rw [hM] at hx; exact hx
 clear hc hkS ho hw hk hM
 go_upto_region 14 with fail
 clear hcell hfr HX
 generalize hW : wv.setCell ⟨g, 14, none⟩ (.slice a10 n10 c10) = w13 at *
 clear hW HOW
 have HG : Hid (w13.heap[g]? = some (.cells #[y0, y1, y2, .slice a1 n1 c1, .slice a2 n2 c2, .slice a3 n3 c3, y3, .slice a4 n4 c4, .slice a5 n5 c5, y4, .slice a6 n6 c6, .slice a7 n7 c7, .slice a8 n8 c8, .slice a9 n9 c9, .slice a10 n10 c10] 41 (0, 0))) := HC13.out
 have HSZ : Hid ((Tryz.prog.info? 41).map (·.size) = some (#[y0, y1, y2, .slice a1 n1 c1, .slice a2 n2 c2, .slice a3 n3 c3, y3, .slice a4 n4 c4, .slice a5 n5 c5, y4, .slice a6 n6 c6, .slice a7 n7 c7, .slice a8 n8 c8, .slice a9 n9 c9, .slice a10 n10 c10] : Array Value).size) := by show _ = _; rw [stSz]; rfl
 have HONE : Hid ((#[y0, y1, y2, .slice a1 n1 c1, .slice a2 n2 c2, .slice a3 n3 c3, y3, .slice a4 n4 c4, .slice a5 n5 c5, y4, .slice a6 n6 c6, .slice a7 n7 c7, .slice a8 n8 c8, .slice a9 n9 c9, .slice a10 n10 c10] : Array Value).all (·.oneCell') = true) := by show _ = true; simp [Value.oneCell']
 go_wp2_with (first
  | (refine wpList_load_row rfl 41 (.tmp 2) rfl g rfl 41 #[y0, y1, y2, .slice a1 n1 c1, .slice a2 n2 c2, .slice a3 n3 c3, y3, .slice a4 n4 c4, .slice a5 n5 c5, y4, .slice a6 n6 c6, .slice a7 n7 c7, .slice a8 n8 c8, .slice a9 n9 c9, .slice a10 n10 c10] (0, 0) _ HG.out Tryz.underlying41 rfl HSZ.out ?_)
  | (refine wpList_store_row rfl 41 (.tmp 2) (.tmp 78) rfl g #[y0, y1, y2, .slice a1 n1 c1, .slice a2 n2 c2, .slice a3 n3 c3, y3, .slice a4 n4 c4, .slice a5 n5 c5, y4, .slice a6 n6 c6, .slice a7 n7 c7, .slice a8 n8 c8, .slice a9 n9 c9, .slice a10 n10 c10] rfl rfl 41 #[y0, y1, y2, .slice a1 n1 c1, .slice a2 n2 c2, .slice a3 n3 c3, y3, .slice a4 n4 c4, .slice a5 n5 c5, y4, .slice a6 n6 c6, .slice a7 n7 c7, .slice a8 n8 c8, .slice a9 n9 c9, .slice a10 n10 c10] HG.out HSZ.out rfl HONE.out ?_)
  | fail)
 refine bodyPost_ret (results_cell_row rfl _ _ g 41 #[y0, y1, y2, .slice a1 n1 c1, .slice a2 n2 c2, .slice a3 n3 c3, y3, .slice a4 n4 c4, .slice a5 n5 c5, y4, .slice a6 n6 c6, .slice a7 n7 c7, .slice a8 n8 c8, .slice a9 n9 c9, .slice a10 n10 c10] (0, 0) _ rfl (setRow_heap _ _ _ _ _ _ HG.out) Tryz.underlying41 rfl HSZ.out) rfl ?_
 have hkr : Kept (fun k => k = g) w13 (w13.setRow g #[y0, y1, y2, .slice a1 n1 c1, .slice a2 n2 c2, .slice a3 n3 c3, y3, .slice a4 n4 c4, .slice a5 n5 c5, y4, .slice a6 n6 c6, .slice a7 n7 c7, .slice a8 n8 c8, .slice a9 n9 c9, .slice a10 n10 c10]) := ⟨rfl, rfl, rfl, by simp [World.setRow], fun k _ hn => setRow_other _ _ _ _ hn⟩
 have hm := HF13.out _ _ HM13.out (hkr.weaken (fun k (e : k = g) => by show k < g + 1; omega))
 obtain ⟨hm, o10⟩ := HZ10.out _ hm
 obtain ⟨hm, o9⟩ := HZ9.out _ hm
 obtain ⟨hm, o8⟩ := HZ8.out _ hm
 obtain ⟨hm, o7⟩ := HZ7.out _ hm
 obtain ⟨hm, o6⟩ := HZ6.out _ hm
 obtain ⟨hm, o5⟩ := HZ5.out _ hm
 obtain ⟨hm, o4⟩ := HZ4.out _ hm
 obtain ⟨hm, o3⟩ := HZ3.out _ hm
 obtain ⟨hm, o2⟩ := HZ2.out _ hm
 have o1 := HZ1.out _ hm
 have hgs := HG0.out
 have hx : stT s = ⟨y0, y1, y2, LM, LI, LA, y3, LT, LP, y4, LB, LG, LC, LD, LS⟩ := by
  unfold stT
  rw [HY0.out, HY4.out, HY7.out, ← HQM.out, ← HQI.out, ← HQA.out, ← HQT.out, ← HQP.out, ← HQB.out, ← HQG.out, ← HQC.out, ← HQD.out, ← HQS.out]
  rfl
 refine ⟨_, rfl, ?_, ?_, ?_⟩
 ·
  rw [hx]
  exact ⟨a1, n1, c1, a2, n2, c2, a3, n3, c3, a4, n4, c4, a5, n5, c5, a6, n6, c6, a7, n7, c7, a8, n8, c8, a9, n9, c9, a10, n10, c10, LSV, rfl, OwnR.base o1 (by omega), OwnR.base o2 (by omega), OwnR.base o3 (by omega), OwnR.base o4 (by omega), OwnR.base o5 (by omega), OwnR.base o6 (by omega), OwnR.base o7 (by omega), OwnR.base o8 (by omega), OwnR.base o9 (by omega), SeOwn.base o10 (by omega)⟩
 ·
  rw [← HE13.out.1, ← HE13.out.2]
  exact HW13.out.go (HW13.out.2.1.kept hkr (fun k hk (e : k = g) => by have := HH.out; omega)) hkr (fun (e : gr = g) => by have := HH.out; omega)
 ·
  have h := HK13.out.trans hkr (fun _ _ h => .inr h)
  exact ⟨h.os, h.tape, h.output, h.size, fun k hk hn => h.block k hk (fun e => e.elim hn (fun e => by omega))⟩
def StT.zero : StT := ⟨0, 0, 0, [], [], [], 0, [], [], 0, [], [], [], [], []⟩
def stTF (_ : Bool) (s : RS) : StT := stT s
def sRF (_ : Bool) (s : RS) : Unit × RS := ((), sR13 s)
def sWF (_ : Bool) (s : RS) : Bool := sW13 s
def StPostF (w : World) (gr gp : Nat) (s : RS) (wb : Bool) (e : Ending) (w' : World) : Prop := ∃ v, e = .returned v ∧ StOwn w' w.heap.size v (stTF wb s) ∧ WR w' gr gp (sRF wb s).2 (sWF wb s) ∧ Kept (fun k => k = gp ∨ k = gr) w w'
theorem rdstateF (w : World) (gr gp : Nat) (s : RS) (wb : Bool) (h : WR w gr gp s wb) (hwb : wb = false) (hlen : s.1.length ≤ 70368744177664) : Calls Tryz.prog 32 #[.pointer (some ⟨gr, 0, none⟩)] w (StPostF w gr gp s false) := by
 subst hwb
 exact rdstate_any w gr gp s h hlen
theorem StOwn_zero (w : World) (base : Nat) : StOwn w base (.agg #[(0:Int), (0:Int), (0:Int), (), (), (), (0:Int), (), (), (0:Int), (), (), (), (), ()]) StT.zero := ⟨none, 0, 0, none, 0, 0, none, 0, 0, none, 0, 0, none, 0, 0, none, 0, 0, none, 0, 0, none, 0, 0, none, 0, 0, none, 0, 0, [], rfl, OwnR.empty MbT.len _ _ _, OwnR.empty InT.len _ _ _, OwnR.empty AsT.len _ _ _, OwnR.empty TrT.len _ _ _, OwnR.empty PoT.len _ _ _, OwnR.empty BaT.len _ _ _, OwnR.empty PlT.len _ _ _, OwnR.empty CaT.len _ _ _, OwnR.empty BiT.len _ _ _, SeOwn.nil _ _⟩
def readSt (l : List UInt8) : StT × Int := if 65536 < l.length then (StT.zero, 6) else if dE (sWF false (l, 0)) (sRF false (l, 0)).2 = 0 then (stTF false (l, 0), 0) else (StT.zero, 6)
def readStPost (w : World) (l : List UInt8) (e : Ending) (w' : World) : Prop := ∃ val, e = .returned (.tuple #[val, .int .i64 (readSt l).2]) ∧ StOwn w' w.heap.size val (readSt l).1 ∧ Below w.heap.size w w'
theorem readSt_zsz : (Tryz.prog.info? 41).map (·.size) = some (#[(0:Int), (0:Int), (0:Int), (), (), (), (0:Int), (), (), (0:Int), (), (), (), (), ()] : Array Value).size := by rw [stSz]; rfl
theorem readSt_zone : (#[(0:Int), (0:Int), (0:Int), (), (), (), (0:Int), (), (), (0:Int), (), (), (), (), ()] : Array Value).all (·.oneCell') = true := by simp [Value.oneCell']
theorem ReadState_any (w : World) (v : Value) (l : List UInt8) (h : Bs w v l) (hlen : l.length ≤ 70368744177664) : Calls Tryz.prog 11 #[v] w (readStPost w l) := by
 have hb1 : Below w.heap.size w (w.alloc (.cells #[(0:Int), (0:Int), (0:Int), (), (), (), (0:Int), (), (), (0:Int), (), (), (), (), ()] 41)) := Bn
 have hc1 : HT (w.alloc (.cells #[(0:Int), (0:Int), (0:Int), (), (), (), (0:Int), (), (), (0:Int), (), (), (), (), ()] 41)) w.heap.size 41 [(0:Int), (0:Int), (0:Int), (), (), (), (0:Int), (), (), (0:Int), (), (), (), (), ()] := HT.new (w := w)
 have rd := read_any _ v l (h.mono hb1) hlen
 have HB1 := Lh hb1
 have HC1 := Lh hc1
 have HLEN := Lh hlen
 obtain ⟨a, c, rfl, _, _⟩ := h.shape
 obtain ⟨n, hn⟩ : ∃ n, n = l.length := ⟨_, rfl⟩
 rw [← hn] at rd ⊢
 clear hb1 hc1 h hn hlen
 go_in
 go_wp2_with fail
 refine rd.mono ?_
 clear rd
 rintro e w1 hpo
 rcases hpo with ⟨hlong, rfl, hb⟩ | ⟨hshort, gr, gp, rfl, hw, hge, hb⟩
 ·
  have HG : Hid (w1.heap[w.heap.size]? = some (.cells #[(0:Int), (0:Int), (0:Int), (), (), (), (0:Int), (), (), (0:Int), (), (), (), (), ()] 41 (0, 0))) := HC1.out.below hb
  have HE := Lh (show readSt l = (StT.zero, 6) by unfold readSt; rw [if_pos hlong])
  have HB := Lh (HB1.out.trans (hb.mono HB1.out.size))
  clear hlong hb
  go_wp2_with (first
   | (refine wpList_store_row rfl 41 (.tmp 2) (.tmp 14) rfl w.heap.size #[(0:Int), (0:Int), (0:Int), (), (), (), (0:Int), (), (), (0:Int), (), (), (), (), ()] rfl rfl 41 #[(0:Int), (0:Int), (0:Int), (), (), (), (0:Int), (), (), (0:Int), (), (), (), (), ()] HG.out readSt_zsz rfl readSt_zone ?_)
   | fail)
  refine bodyPost_ret (results_row_tmp rfl _ _ w.heap.size 41 #[(0:Int), (0:Int), (0:Int), (), (), (), (0:Int), (), (), (0:Int), (), (), (), (), ()] (0, 0) _ rfl (setRow_heap _ _ _ _ _ _ HG.out) Tryz.underlying41 rfl readSt_zsz rfl) rfl ?_
  exact ⟨_, by rw [HE.out]; rfl, by rw [HE.out]; exact StOwn_zero _ _, HB.out.trans (setRow_below (Nat.le_refl _) _)⟩
 ·
  have hcm := rdstateF w1 gr gp (l, 0) false hw rfl HLEN.out
  have hk1 := HC1.out.below hb
  have HGE := Lh (⟨by simpa using hge, hw.2.2, hw.lt, hk1.lt⟩ : w.heap.size + 1 ≤ gp ∧ _ ∧ _ ∧ _)
  have HB := Lh (HB1.out.trans (hb.mono HB1.out.size))
  have HK1 := Lh hk1
  have HSH := Lh hshort
  clear hw hb hge hk1 hshort
  go_wp2_with fail
  refine hcm.mono ?_
  clear hcm
  rintro e w2 ⟨val, rfl, hv, hw2, hk2⟩
  have hg2 := HK1.out.keptH hk2 (fun e => by have := HGE.out.1; have := HGE.out.2.1; omega)
  have hb2 : Below w.heap.size w w2 := HB.out.trans (hk2.below (fun k hk e => by have := HGE.out.1; have := HGE.out.2.1; omega) HB.out.size)
  obtain ⟨s, hs⟩ : ∃ s, s = (sRF false (l, 0)).2 := ⟨_, rfl⟩
  obtain ⟨wb, hwb⟩ : ∃ s, s = sWF false (l, 0) := ⟨_, rfl⟩
  obtain ⟨x, hx⟩ : ∃ x, x = stTF false (l, 0) := ⟨_, rfl⟩
  rw [← hs, ← hwb] at hw2
  rw [← hx] at hv
  have HV := Lh hv
  obtain ⟨a1, n1, c1, a2, n2, c2, a3, n3, c3, a4, n4, c4, a5, n5, c5, a6, n6, c6, a7, n7, c7, a8, n8, c8, a9, n9, c9, a10, n10, c10, LSV, rfl, _⟩ := hv
  have hbn : Below w2.heap.size w2 (w2.alloc (.cells #[(0:Int), (0:Int), (0:Int), (), (), (), (0:Int), (), (), (0:Int), (), (), (), (), ()] 41)) := Bn
  have hbs : Below w2.heap.size w2 ((w2.alloc (.cells #[(0:Int), (0:Int), (0:Int), (), (), (), (0:Int), (), (), (0:Int), (), (), (), (), ()] 41)).setRow w2.heap.size #[x.now, x.day, x.ph, .slice a1 n1 c1, .slice a2 n2 c2, .slice a3 n3 c3, x.nx, .slice a4 n4 c4, .slice a5 n5 c5, x.la, .slice a6 n6 c6, .slice a7 n7 c7, .slice a8 n8 c8, .slice a9 n9 c9, .slice a10 n10 c10]) := hbn.trans (setRow_below (Nat.le_refl _) _)
  have dn := done_any _ gr gp s wb (hw2.below hbs)
  obtain ⟨d, hd⟩ : ∃ d, d = dE wb s := ⟨_, rfl⟩
  rw [← hd] at dn
  have HG2 : Hid (((w2.alloc (.cells #[(0:Int), (0:Int), (0:Int), (), (), (), (0:Int), (), (), (0:Int), (), (), (), (), ()] 41)).setRow w2.heap.size #[x.now, x.day, x.ph, .slice a1 n1 c1, .slice a2 n2 c2, .slice a3 n3 c3, x.nx, .slice a4 n4 c4, .slice a5 n5 c5, x.la, .slice a6 n6 c6, .slice a7 n7 c7, .slice a8 n8 c8, .slice a9 n9 c9, .slice a10 n10 c10]).heap[w.heap.size]? = some (.cells #[(0:Int), (0:Int), (0:Int), (), (), (), (0:Int), (), (), (0:Int), (), (), (), (), ()] 41 (0, 0))) := hg2.below hbs
  have HN2 : Hid (((w2.alloc (.cells #[(0:Int), (0:Int), (0:Int), (), (), (), (0:Int), (), (), (0:Int), (), (), (), (), ()] 41)).setRow w2.heap.size #[x.now, x.day, x.ph, .slice a1 n1 c1, .slice a2 n2 c2, .slice a3 n3 c3, x.nx, .slice a4 n4 c4, .slice a5 n5 c5, x.la, .slice a6 n6 c6, .slice a7 n7 c7, .slice a8 n8 c8, .slice a9 n9 c9, .slice a10 n10 c10]).heap[w2.heap.size]? = some (.cells #[x.now, x.day, x.ph, .slice a1 n1 c1, .slice a2 n2 c2, .slice a3 n3 c3, x.nx, .slice a4 n4 c4, .slice a5 n5 c5, x.la, .slice a6 n6 c6, .slice a7 n7 c7, .slice a8 n8 c8, .slice a9 n9 c9, .slice a10 n10 c10] 41 (0, 0))) := setRow_heap _ _ _ _ _ _ (heap_alloc_new w2 _)
  have HB3 := Lh (hb2.trans (hbs.mono hb2.size))
  have HV3 : Hid (StOwn ((w2.alloc (.cells #[(0:Int), (0:Int), (0:Int), (), (), (), (0:Int), (), (), (0:Int), (), (), (), (), ()] 41)).setRow w2.heap.size #[x.now, x.day, x.ph, .slice a1 n1 c1, .slice a2 n2 c2, .slice a3 n3 c3, x.nx, .slice a4 n4 c4, .slice a5 n5 c5, x.la, .slice a6 n6 c6, .slice a7 n7 c7, .slice a8 n8 c8, .slice a9 n9 c9, .slice a10 n10 c10]) w1.heap.size (.agg #[x.now, x.day, x.ph, .slice a1 n1 c1, .slice a2 n2 c2, .slice a3 n3 c3, x.nx, .slice a4 n4 c4, .slice a5 n5 c5, x.la, .slice a6 n6 c6, .slice a7 n7 c7, .slice a8 n8 c8, .slice a9 n9 c9, .slice a10 n10 c10]) x) := HV.out.below hbs
  have HSZ : Hid ((Tryz.prog.info? 41).map (·.size) = some (#[x.now, x.day, x.ph, .slice a1 n1 c1, .slice a2 n2 c2, .slice a3 n3 c3, x.nx, .slice a4 n4 c4, .slice a5 n5 c5, x.la, .slice a6 n6 c6, .slice a7 n7 c7, .slice a8 n8 c8, .slice a9 n9 c9, .slice a10 n10 c10] : Array Value).size) := by show _ = _; rw [stSz]; rfl
  have HS17 : Hid ((#[(0:Int), (0:Int), (0:Int), (), (), (), (0:Int), (), (), (0:Int), (), (), (), (), ()] : Array Value).size = (#[x.now, x.day, x.ph, .slice a1 n1 c1, .slice a2 n2 c2, .slice a3 n3 c3, x.nx, .slice a4 n4 c4, .slice a5 n5 c5, x.la, .slice a6 n6 c6, .slice a7 n7 c7, .slice a8 n8 c8, .slice a9 n9 c9, .slice a10 n10 c10] : Array Value).size) := by show _ = _; rfl
  have HONE : Hid ((#[x.now, x.day, x.ph, .slice a1 n1 c1, .slice a2 n2 c2, .slice a3 n3 c3, x.nx, .slice a4 n4 c4, .slice a5 n5 c5, x.la, .slice a6 n6 c6, .slice a7 n7 c7, .slice a8 n8 c8, .slice a9 n9 c9, .slice a10 n10 c10] : Array Value).all (·.oneCell') = true) := by show _ = _; simp [Value.oneCell']
  have HD6 : Hid (d = 0 ∨ d = 6) := by
   show _ ∨ _
   rw [hd]
   unfold dE
   split
   ·
    exact .inr rfl
   ·
    exact .inl rfl
  have HE : Hid (readSt l = if d = 0 then (x, 0) else (StT.zero, 6)) := by
   show _ = _
   unfold readSt
   rw [if_neg HSH.out, ← hs, ← hwb, ← hx, hd]
  clear hs hwb hx hd hw2 hk2 hg2 hb2 hbn hbs
  go_wp2_with (first
   | (refine wpList_store_row rfl 41 (.tmp 6) (.tmp 17) rfl w2.heap.size #[x.now, x.day, x.ph, .slice a1 n1 c1, .slice a2 n2 c2, .slice a3 n3 c3, x.nx, .slice a4 n4 c4, .slice a5 n5 c5, x.la, .slice a6 n6 c6, .slice a7 n7 c7, .slice a8 n8 c8, .slice a9 n9 c9, .slice a10 n10 c10] rfl rfl 41 #[(0:Int), (0:Int), (0:Int), (), (), (), (0:Int), (), (), (0:Int), (), (), (), (), ()] (heap_alloc_new w2 _) HSZ.out HS17.out HONE.out ?_)
   | fail)
  refine dn.mono ?_
  clear dn
  rintro e w3 ⟨rfl, hw3⟩
  generalize hW : (w2.alloc (.cells #[(0:Int), (0:Int), (0:Int), (), (), (), (0:Int), (), (), (0:Int), (), (), (), (), ()] 41)).setRow w2.heap.size #[x.now, x.day, x.ph, .slice a1 n1 c1, .slice a2 n2 c2, .slice a3 n3 c3, x.nx, .slice a4 n4 c4, .slice a5 n5 c5, x.la, .slice a6 n6 c6, .slice a7 n7 c7, .slice a8 n8 c8, .slice a9 n9 c9, .slice a10 n10 c10] = W3 at *
  clear hW
  subst hw3
  by_cases hz : d = 0
  ·
   subst hz
   go_wp2_with (first
    | (refine wpList_load_row rfl 41 (.tmp 6) rfl w2.heap.size rfl 41 #[x.now, x.day, x.ph, .slice a1 n1 c1, .slice a2 n2 c2, .slice a3 n3 c3, x.nx, .slice a4 n4 c4, .slice a5 n5 c5, x.la, .slice a6 n6 c6, .slice a7 n7 c7, .slice a8 n8 c8, .slice a9 n9 c9, .slice a10 n10 c10] (0, 0) _ HN2.out Tryz.underlying41 rfl HSZ.out ?_)
    | (refine wpList_store_row rfl 41 (.tmp 2) (.tmp 24) rfl w.heap.size #[x.now, x.day, x.ph, .slice a1 n1 c1, .slice a2 n2 c2, .slice a3 n3 c3, x.nx, .slice a4 n4 c4, .slice a5 n5 c5, x.la, .slice a6 n6 c6, .slice a7 n7 c7, .slice a8 n8 c8, .slice a9 n9 c9, .slice a10 n10 c10] rfl rfl 41 #[(0:Int), (0:Int), (0:Int), (), (), (), (0:Int), (), (), (0:Int), (), (), (), (), ()] HG2.out HSZ.out HS17.out HONE.out ?_)
    | fail)
   refine bodyPost_ret (results_row_tmp rfl _ _ w.heap.size 41 #[x.now, x.day, x.ph, .slice a1 n1 c1, .slice a2 n2 c2, .slice a3 n3 c3, x.nx, .slice a4 n4 c4, .slice a5 n5 c5, x.la, .slice a6 n6 c6, .slice a7 n7 c7, .slice a8 n8 c8, .slice a9 n9 c9, .slice a10 n10 c10] (0, 0) _ rfl (setRow_heap _ _ _ _ _ _ HG2.out) Tryz.underlying41 rfl HSZ.out rfl) rfl ?_
   have hE : readSt l = (x, 0) := by rw [HE.out]; simp
   refine ⟨_, by rw [hE]; rfl, ?_, HB3.out.trans (setRow_below (Nat.le_refl _) _)⟩
   rw [hE]
   have hkr : Kept (fun k => k = w.heap.size) W3 (W3.setRow w.heap.size #[x.now, x.day, x.ph, .slice a1 n1 c1, .slice a2 n2 c2, .slice a3 n3 c3, x.nx, .slice a4 n4 c4, .slice a5 n5 c5, x.la, .slice a6 n6 c6, .slice a7 n7 c7, .slice a8 n8 c8, .slice a9 n9 c9, .slice a10 n10 c10]) := ⟨rfl, rfl, rfl, by simp [World.setRow], fun k _ hn => setRow_other _ _ _ _ hn⟩
   exact (HV3.out.kept hkr (fun k hk (e : k = w.heap.size) => by have := HGE.out.2.2.2; omega)).base HB.out.size
  ·
   have hz' : (d != 0) = true := by rw [bne_iff_ne]; exact hz
   have HZ : Hid (d = 6) := HD6.out.resolve_left hz
   clear hz
   go_wp2_with (first
    | (refine wpList_store_row rfl 41 (.tmp 2) (.tmp 22) rfl w.heap.size #[(0:Int), (0:Int), (0:Int), (), (), (), (0:Int), (), (), (0:Int), (), (), (), (), ()] rfl rfl 41 #[(0:Int), (0:Int), (0:Int), (), (), (), (0:Int), (), (), (0:Int), (), (), (), (), ()] HG2.out readSt_zsz rfl readSt_zone ?_)
    | fail)
   refine bodyPost_ret (results_row_tmp rfl _ _ w.heap.size 41 #[(0:Int), (0:Int), (0:Int), (), (), (), (0:Int), (), (), (0:Int), (), (), (), (), ()] (0, 0) _ rfl (setRow_heap _ _ _ _ _ _ HG2.out) Tryz.underlying41 rfl readSt_zsz rfl) rfl ?_
   have hE : readSt l = (StT.zero, 6) := by rw [HE.out, if_neg (by rw [HZ.out]; decide)]
   exact ⟨_, by rw [hE, HZ.out]; rfl, by rw [hE]; exact StOwn_zero _ _, HB3.out.trans (setRow_below (Nat.le_refl _) _)⟩
end Cam
