import Derived.Test.YtgeclnjkkjmbaaaGreatWtC
/- Seats: the closure of wire.writer that writes one; wire.list over seats. -/
namespace Cam
open Go Go.RowKit Go.Proofs
set_option linter.unusedVariables false
set_option linter.unusedSimpArgs false
set_option maxHeartbeats 3200000
variable {tw tb : TypeId}
structure SeT where
 client : Int
 seq : Int
 r : RepT
def SeT.bytes (s : SeT) : List UInt8 := encIs [s.client, s.seq] ++ encRep s.r.c s.r.n s.r.a s.r.D s.r.F
def SeT.ok (s : SeT) : Prop := okI [s.client, s.seq] ∧ okI [s.r.c, s.r.n, s.r.a] ∧ (∀ x ∈ s.r.D, okI x.ints) ∧ ∀ x ∈ s.r.F, okI x.ints
theorem SeT.blen (s : SeT) (h : s.ok) : s.bytes.length ≤ 200100 := by
 have h1 := encIs_length [s.client, s.seq] h.1
 have h2 := encRep_length s.r.c s.r.n s.r.a s.r.D s.r.F h.2.1 h.2.2.1 h.2.2.2
 unfold SeT.bytes
 rw [List.length_append]
 simp at h1
 omega
structure SV where
 client : Int
 seq : Int
 c : Int
 n : Int
 a : Int
 a1 : Option Addr
 n1 : Nat
 c1 : Nat
 a2 : Option Addr
 n2 : Nat
 c2 : Nat
def SV.vd (x : SV) : Value := .slice x.a1 x.n1 x.c1
def SV.vf (x : SV) : Value := .slice x.a2 x.n2 x.c2
def SV.vs (x : SV) : List Value := [x.client, x.seq, x.c, x.n, x.a, .slice x.a1 x.n1 x.c1, .slice x.a2 x.n2 x.c2]
theorem SV.len (x : SV) : x.vs.length = 7 := rfl
theorem SV.one (c : SV) : ∀ u ∈ c.vs, u.oneCell' = true := by
 intro u hu
 simp only [SV.vs, List.mem_cons, List.not_mem_nil, or_false] at hu
 rcases hu with rfl | rfl | rfl | rfl | rfl | rfl | rfl <;> rfl
theorem elem_sea : Elem Tryz.prog 39 76 7 88 := Elem.mk' (z := .agg #[(0:Int), (0:Int), (0:Int), (0:Int), (0:Int), (), ()]) Tryz.underlying39 (by kernel_rfl) rfl (by decide)
theorem sea_sz : (Tryz.prog.info? 76).map (·.size) = some 7 := by kernel_rfl
def SVok (w : World) (x : SV) (s : SeT) : Prop := x.client = s.client ∧ x.seq = s.seq ∧ x.c = s.r.c ∧ x.n = s.r.n ∧ x.a = s.r.a ∧ Rs DT.vs 3 w x.vd s.r.D ∧ Rs FT.vs 8 w x.vf s.r.F
theorem PWPost.next' {tw : TypeId} {rs : List Value} {w wr w' : World} {g : Nat} {v v1 : Value} {l : List UInt8} {lg : Bool} (hk : Kept (fun k => k = g ∨ v.ownBlock = some k) w wr) (ho : ∀ k, v1.ownBlock = some k → v.ownBlock = some k ∨ w.heap.size ≤ k) (h : PWPost tw rs wr g v1 l lg w') : PWPost tw rs w g v l lg w' := by
 obtain ⟨v2, h1, h2, h3⟩ := h
 refine ⟨v2, h1, kept_next hk ho h2, fun k e => ?_⟩
 rcases h3 k e with h | h
 ·
  exact ho k h
 ·
  exact .inr (Nat.le_trans hk.size h)
def anyW (L : List SeT) : Bool := L.any fun s => repW s.r.D s.r.F
theorem anyW_snoc {L : List SeT} {k : Nat} (h : k < L.length) : anyW (L.take (k + 1)) = (anyW (L.take k) || repW L[k].r.D L[k].r.F) := by
 unfold anyW
 rw [List.take_succ_eq_append_getElem h, List.any_append]
 simp
theorem encG_take_le {α : Type} (b : α → List UInt8) (L : List α) (k : Nat) : (encG b (L.take k)).length ≤ (encG b L).length := by
 have h : encG b L = encG b (L.take k) ++ encG b (L.drop k) := by unfold encG; rw [← List.flatten_append, ← List.map_append, List.take_append_drop]
 rw [h, List.length_append]
 omega
set_option maxRecDepth 100000 in
theorem wsea_any (w : World) (g : Nat) (v : Value) (l : List UInt8) (lg wb : Bool) (gw : Nat) (x : SV) (s : SeT) (hp : PW tw [.bool wb] w g v l lg) (hgw : HT w gw tb [.pointer (some ⟨g, 0, none⟩)]) (hgn : gw ≠ g ∧ v.ownBlock ≠ some gw)
  (hx : ∀ w', Kept (fun k => k = g ∨ v.ownBlock = some k) w w' → SVok w' x s) (hr : s.ok) (hlen : l.length ≤ 99999900) :
  Calls Tryz.prog 67 #[.agg #[x.client, x.seq, x.c, x.n, x.a, .slice x.a1 x.n1 x.c1, .slice x.a2 x.n2 x.c2], .pointer (some ⟨gw, 0, none⟩)] w fun e w' => e = .returned (.tuple #[]) ∧ PWPost tw [.bool (wb || repW s.r.D s.r.F)] w g v (l ++ s.bytes) lg w' := by
 obtain ⟨a1, ha1⟩ : ∃ a, a = x.a1 := ⟨_, rfl⟩
 obtain ⟨n1, hn1⟩ : ∃ a, a = x.n1 := ⟨_, rfl⟩
 obtain ⟨c1, hc1⟩ : ∃ a, a = x.c1 := ⟨_, rfl⟩
 obtain ⟨a2, ha2⟩ : ∃ a, a = x.a2 := ⟨_, rfl⟩
 obtain ⟨n2, hn2⟩ : ∃ a, a = x.n2 := ⟨_, rfl⟩
 obtain ⟨c2, hc2⟩ : ∃ a, a = x.c2 := ⟨_, rfl⟩
 rw [← ha1, ← hn1, ← hc1, ← ha2, ← hn2, ← hc2]
 have HV : Hid (x.vd = .slice a1 n1 c1 ∧ x.vf = .slice a2 n2 c2) := by show _ ∧ _; unfold SV.vd SV.vf; rw [ha1, hn1, hc1, ha2, hn2, hc2]; exact ⟨rfl, rfl⟩
 have hbx := (Below.refl w.heap.size w).alloc (Nat.le_refl _) (.cells #[x.client, x.seq, x.c, x.n, x.a, .slice a1 n1 c1, .slice a2 n2 c2] 76)
 have hc : HT (w.alloc (.cells #[x.client, x.seq, x.c, x.n, x.a, .slice a1 n1 c1, .slice a2 n2 c2] 76)) w.heap.size 76 [x.client, x.seq, x.c, x.n, x.a, .slice a1 n1 c1, .slice a2 n2 c2] := HT.new (w := w)
 have hng : w.heap.size ≠ g := by have := hp.lt; omega
 have hnv : v.ownBlock ≠ some w.heap.size := fun e => by have := (hp.row _ e).2; omega
 have HP0 := Lh (hp.below hbx)
 have HBX := Lh hbx
 have HC0 := Lh hc
 have HX := Lh hx
 have HGW0 := Lh (hgw.below hbx)
 have HNE0 : Hid (w.heap.size ≠ g ∧ v.ownBlock ≠ some w.heap.size ∧ gw ≠ g ∧ v.ownBlock ≠ some gw) := ⟨hng, hnv, hgn.1, hgn.2⟩
 have HR : Hid (okI [x.client, x.seq] ∧ okI [x.c, x.n, x.a] ∧ (∀ x ∈ s.r.D, okI x.ints) ∧ ∀ x ∈ s.r.F, okI x.ints) := by
  obtain ⟨e1, e2, e3, e4, e5, _⟩ := hx w (Kept.refl _ _)
  rw [e1, e2, e3, e4, e5]
  exact hr
 have HLEN := Lh hlen
 have HRSZ : Hid ((Tryz.prog.info? 63).map (·.size) = some ([x.c, x.n, x.a, .slice a1 n1 c1, .slice a2 n2 c2] : List Value).length) := by show _ = _; rw [repSz]; rfl
 clear hbx hc hng hnv hp hr hlen hgw hgn hx ha1 hn1 hc1 ha2 hn2 hc2
 go_in
 go_wp2_with fail
 generalize hW : (w.alloc (.cells #[x.client, x.seq, x.c, x.n, x.a, .slice a1 n1 c1, .slice a2 n2 c2] 76)) = W0 at *
 clear hW
 generalize hgc : w.heap.size = gc at *
 have HGC : Hid (gc = w.heap.size) := hgc.symm
 have HBX := Lh (show Below w.heap.size w W0 by rw [hgc]; exact HBX.out)
 clear hgc
 refine wp_region_bl 8 (by kernel_rfl) ?_
 refine uL 0 (some 3) (.pointer (some ⟨g, 0, none⟩)) (BL.cls W0) (fun w hSw => BL.cell hSw (HGW0.out.cell (j := 0) rfl)) ?_
 refine uP 3 [(1, some 4, .pointer (some ⟨g, 0, none⟩)), (2, some 5, .pointer (some ⟨g, 0, none⟩)), (3, some 6, .pointer (some ⟨gc, 0, none⟩))] (BL.cls W0) ?_
 refine uL 4 (some 7) (.int .i64 x.client) (BL.cls W0) (fun w hSw => BL.cell hSw (HC0.out.cell (j := 0) rfl)) ?_
 simp only [zq]
 refine uP 1 [(5, some 8, .pointer (some ⟨gc, 1, none⟩))] (BL.cls W0) ?_
 refine uL 6 (some 9) (.int .i64 x.seq) (BL.cls W0) (fun w hSw => BL.cell hSw (HC0.out.cell (j := 1) rfl)) ?_
 simp only [zq]
 refine uS 7 rfl (fun wA7 hA7 K hK => ?_)
 go_simp
 refine hK.out _ _ (BL (wA7.alloc (.cells #[x.client, x.seq] 3))) (BL.cls' (hA7.alloc (Below.size hA7) _)) (Below.refl _ _) ?_
 clear hK K
 try simp only [zq]
 refine uZ rfl (fun w1 hb1 K hK => ?_)
 go_simp
 have hbl : Below W0.heap.size W0 w1 := (Below.alloc hA7 hA7.size (.cells #[x.client, x.seq] 3)).trans (hb1.mono (by simp; exact Nat.le_succ_of_le hA7.size))
 have hp1 := HP0.out.below hbl
 have his : Is (wA7.alloc (.cells #[x.client, x.seq] 3)) (.slice (some ⟨wA7.heap.size, 0, none⟩) 2 2) [x.client, x.seq] := Is.block (l := [x.client, x.seq]) (heap_new rfl) (Nat.le_refl _) (by simp [maxLen])
 have his1 := his.mono hb1
 refine (WInt_any w1 g v l lg _ _ hp1 his1 (fun w2 hk => his1.kept1 hk (fun _ k hi e => ?_)) HR.out.1 (by have := HLEN.out; simp; omega)).mono ?_
 ·
  obtain ⟨ad, n, c, hv, rfl⟩ := hi
  injection hv with h5
  injection h5 with h5
  subst h5
  have h6 := hA7.size
  rcases e with e | e'
  ·
   have := HP0.out.lt
   simp only at e
   omega
  ·
   have := (HP0.out.row _ e').2
   simp only at this
   omega
 rintro e wn ⟨rfl, hpo⟩
 have HPO := Lh (hpo.pre hbl)
 clear hbl hp1 his his1 hpo hb1
 refine hK.out _ _ ?_
 clear hK K
 try simp only [zq]
 obtain ⟨v1, hp1, hk1, ho1⟩ := HPO.out
 have hcW : HT wn gc 76 [x.client, x.seq, x.c, x.n, x.a, .slice a1 n1 c1, .slice a2 n2 c2] := HT.keptH HC0.out hk1 (fun e => e.elim (fun e => HNE0.out.1 e) (fun e => HNE0.out.2.1 e))
 have hgW : HT wn gw tb [.pointer (some ⟨g, 0, none⟩)] := HT.keptH HGW0.out hk1 (fun e => e.elim (fun e => HNE0.out.2.2.1 e) (fun e => HNE0.out.2.2.2 e))
 have hcg := hgW.cell (j := 0) rfl
 have hsv : ∀ w', Kept (fun k => k = g ∨ v1.ownBlock = some k) wn w' → SVok w' x s := fun w' hk => HX.out w' (kept_next (((Kept.of_below HBX.out).weaken (fun _ h => h.elim)).trans hk1 (fun _ _ h => h)) (fun k e => (ho1 k e).imp id (fun h => Nat.le_trans HBX.out.size h)) hk)
 have he := (hsv wn (Kept.refl _ _))
 have wr := wreply_any (tw := tw) wn g v1 (l ++ encIs [x.client, x.seq]) lg wb x.c x.n x.a (.slice a1 n1 c1) (.slice a2 n2 c2) s.r.D s.r.F hp1 HR.out.2.1 (fun w' hk => HV.out.1 ▸ (hsv w' hk).2.2.2.2.2.1) (fun w' hk => HV.out.2 ▸ (hsv w' hk).2.2.2.2.2.2) HR.out.2.2.1 HR.out.2.2.2 (by have h1 := HLEN.out; have h2 := encIs_length [x.client, x.seq] HR.out.1; simp at h2 ⊢; omega)
 have HCW := Lh hcW
 have HE := Lh he
 have HPK := Lh (⟨hp1, hk1, ho1⟩ : _ ∧ _ ∧ _)
 have hrg : wn.rangeAt gc 2 [x.c, x.n, x.a, .slice a1 n1 c1, .slice a2 n2 c2] := fun j u hu => by
  have h8 := HCW.out.cell (j := 2 + j) (v := u) (by rw [show ([.int .i64 x.client, .int .i64 x.seq, .int .i64 x.c, .int .i64 x.n, .int .i64 x.a, .slice a1 n1 c1, .slice a2 n2 c2] : List Value) = [.int .i64 x.client, .int .i64 x.seq] ++ [.int .i64 x.c, .int .i64 x.n, .int .i64 x.a, .slice a1 n1 c1, .slice a2 n2 c2] from rfl, List.getElem?_append_right (by simp)]; simpa using hu)
  exact h8
 have HRG := Lh hrg
 clear HPO hp1 hk1 ho1 hcW hgW hsv he hrg
 go_wp2_with (first
  | (refine wpList_load_mid rfl 63 (.tmp 13) rfl gc 2 rfl [x.c, x.n, x.a, .slice a1 n1 c1, .slice a2 n2 c2] _ HRG.out Tryz.underlying63 rfl HRSZ.out ?_)
  | fail)
 refine wr.mono ?_
 clear wr hcg
 rintro e w5 ⟨rfl, hp5⟩
 have hf := PWPost.next' HPK.out.2.1 HPK.out.2.2 hp5
 have hf2 := PWPost.pre HBX.out hf
 have HFF : Hid (PWPost tw [.bool (wb || repW s.r.D s.r.F)] w g v (l ++ s.bytes) lg w5) := by
  show PWPost _ _ _ _ _ _ _ _
  have e1 : l ++ encIs [x.client, x.seq] ++ encRep x.c x.n x.a s.r.D s.r.F = l ++ s.bytes := by
   obtain ⟨e1, e2, e3, e4, e5, _⟩ := HE.out
   rw [e1, e2, e3, e4, e5]
   unfold SeT.bytes
   simp only [List.append_assoc]
  rw [e1, Bool.or_assoc] at hf2
  exact hf2
 clear hp5 hf hf2
 go_wp2_with fail
 go_end0
 exact ⟨rfl, HFF.out⟩
theorem wlist_sea_no (w : World) (g : Nat) (v : Value) (l : List UInt8) (lg wb : Bool) (vl : Value) (L : List SV) (hp : PW tw [.bool wb] w g v l lg) (hx : Rs SV.vs 7 w vl L) (hn : 1024 < L.length) (vf : Value) :
  Calls Tryz.prog 66 #[.pointer (some ⟨g, 0, none⟩), vl, vf] w fun e w' => e = .returned (.tuple #[]) ∧ PWPost tw [.bool true] w g v l lg w' := by
 obtain ⟨al, cl, rfl, hcl, hml⟩ := hx.shape
 have hc : HT w g tw [v, .bool lg, .bool wb] := hp.1
 have hcell := hc.cell (j := 2) rfl
 have hfr := hc.frozen 2
 have hput := hc.put 2 (.bool true)
 have hk : Kept (fun k => k = g ∨ v.ownBlock = some k) w (w.setCell ⟨g, 2, none⟩ (.bool true)) := (Kept.refl _ w).setCell _ _ (.inl rfl)
 have ho : OwnB 5 (w.setCell ⟨g, 2, none⟩ (.bool true)) (g + 1) v l := OwnB.keptS hp.2 (S := fun k => k = g) ((Kept.refl (fun k => k = g) w).setCell _ _ rfl) (fun k hk (e : k = g) => by have := (hp.row k hk).1; omega)
 have hn1 : (1024 : Int) < (L.length : Int) := by omega
 have HF := Lh (⟨v, ⟨hput, ho⟩, hk, fun k h => .inl h⟩ : PWPost tw [.bool true] w g v l lg (w.setCell ⟨g, 2, none⟩ (.bool true)))
 clear hput hk ho hc hp hx
 go_in
 go_wp2_with fail
 refine bodyPost_ret (results_none rfl _ _ _) rfl ?_
 exact ⟨rfl, HF.out⟩
theorem wlist_sea (w : World) (g : Nat) (v : Value) (l : List UInt8) (lg wb : Bool) (gw : Nat) (vl : Value) (L : List SV) (hp : PW tw [.bool wb] w g v l lg) (hgw : HT w gw tb [.pointer (some ⟨g, 0, none⟩)]) (hgn : gw ≠ g ∧ v.ownBlock ≠ some gw) (M : List SeT) (hLM : L.length = M.length) (hx : ∀ w', Kept (fun k => k = g ∨ v.ownBlock = some k) w w' → Rs SV.vs 7 w' vl L ∧ ∀ i (h : i < L.length) (h' : i < M.length), SVok w' L[i] M[i]) (hr : ∀ x ∈ M, x.ok) (hn : L.length ≤ 1024) (hlen : l.length + (encG SeT.bytes M).length ≤ 90000000) :
  Calls Tryz.prog 66 #[.pointer (some ⟨g, 0, none⟩), vl, .func (.func 67) #[] #[.pointer (some ⟨gw, 0, none⟩)]] w fun e w' => e = .returned (.tuple #[]) ∧ PWPost tw [.bool (wb || anyW M)] w g v (l ++ (encIs [(M.length : Int)] ++ encG SeT.bytes M)) lg w' := by
 obtain ⟨al, cl, rfl, hcl, hml⟩ := (hx w (Kept.refl _ _)).1.shape
 obtain ⟨n, hN⟩ : ∃ n, n = L.length := ⟨_, rfl⟩
 have hbx : Below w.heap.size w (w.alloc (.cells #[(n : Int)] 3)) := Bn
 have his : Is (w.alloc (.cells #[(n : Int)] 3)) (.slice (some ⟨w.heap.size, 0, none⟩) 1 1) [(n : Int)] := Is.block (l := [(n : Int)]) (heap_new rfl) (Nat.le_refl _) (by simp [maxLen])
 have wi := WInt_any (w.alloc (.cells #[(n : Int)] 3)) g v l lg _ _ (hp.below hbx) his (fun w2 hk => his.kept1 hk (fun _ k hi e => by
  obtain ⟨ad, n, c, hv, rfl⟩ := hi
  injection hv with h5
  injection h5 with h5
  subst h5
  rcases e with e | e
  ·
   have := hp.lt
   simp only at e
   omega
  ·
   have := (hp.row _ e).2
   simp only at this
   omega)) (by intro m hm; rw [List.mem_singleton] at hm; omega) (by simp; omega)
 have HP := Lh hp
 have HX := Lh hx
 have HR := Lh hr
 have HBX := Lh hbx
 have HGW := Lh (⟨hgw, hgn⟩ : _ ∧ _)
 have HN : Hid (n = L.length ∧ n ≤ 1024 ∧ n = M.length) := ⟨hN, by omega, by omega⟩
 rw [← hLM]
 have HLEN := Lh hlen
 have hn1 : (n : Int) ≤ 1024 := by omega
 rw [← hN] at hcl ⊢
 clear hbx his hp hx hr hlen hN hn hgw hgn
 go_in
 go_wp2_with fail
 refine wi.mono ?_
 clear wi
 rintro e w1 ⟨rfl, hp1⟩
 have HP1 := Lh (PWPost.pre HBX.out hp1)
 clear hp1
 go_wp2_with fail
 go_loopw [23] (fun v23 wr => ∃ k : Nat, k ≤ n ∧ v23 = .int .i64 k ∧ PWPost tw [.bool (wb || anyW (M.take k))] w g v (l ++ (encIs [(n : Int)] ++ encG SeT.bytes (M.take k))) lg wr) (fun i _ => n - (intOf i).toNat)
 case atStart => exact ⟨0, Nat.zero_le _, rfl, by simpa [encG, anyW] using HP1.out⟩
 case round =>
  obtain ⟨k, hk, rfl, hpk⟩ := hrel
  have HPK := Lh hpk
  clear hpk
  by_cases hlt : k < n
  ·
   obtain ⟨v1, hp1, hk1, ho1⟩ := HPK.out
   have hrows := (HX.out wr hk1).1
   have hkL : k < L.length := by rw [← HN.out.1]; exact hlt
   have hkM : k < M.length := by rw [← HN.out.2.2]; exact hlt
   have hrows' : Rs SV.vs 7 wr (.slice al n cl) L := by rw [HN.out.1]; exact hrows
   obtain ⟨b, off, rfl, hbw, hat⟩ := hrows'.at (by omega) (by decide)
   have hran : wr.rangeAt b (off + k * 7) [L[k].client, L[k].seq, L[k].c, L[k].n, L[k].a, .slice L[k].a1 L[k].n1 L[k].c1, .slice L[k].a2 L[k].n2 L[k].c2] := fun j u hu => hat k hkL j u hu
   have hal : Below wr.heap.size wr ((wr.alloc (.cells #[(0:Int), (0:Int), (0:Int), (0:Int), (0:Int), (), ()] 76)).setRow wr.heap.size #[L[k].client, L[k].seq, L[k].c, L[k].n, L[k].a, .slice L[k].a1 L[k].n1 L[k].c1, .slice L[k].a2 L[k].n2 L[k].c2]) := (Bn).trans (setRow_below (Nat.le_refl _) _)
   have HNEW : Hid ((wr.alloc (.cells #[(0:Int), (0:Int), (0:Int), (0:Int), (0:Int), (), ()] 76)).heap[wr.heap.size]? = some (.cells #[(0:Int), (0:Int), (0:Int), (0:Int), (0:Int), (), ()] 76 (0, 0))) := heap_alloc_new _ _
   have HNEW2 : Hid (((wr.alloc (.cells #[(0:Int), (0:Int), (0:Int), (0:Int), (0:Int), (), ()] 76)).setRow wr.heap.size #[L[k].client, L[k].seq, L[k].c, L[k].n, L[k].a, .slice L[k].a1 L[k].n1 L[k].c1, .slice L[k].a2 L[k].n2 L[k].c2]).heap[wr.heap.size]? = some (.cells #[L[k].client, L[k].seq, L[k].c, L[k].n, L[k].a, .slice L[k].a1 L[k].n1 L[k].c1, .slice L[k].a2 L[k].n2 L[k].c2] 76 (0, 0))) := setRow_heap _ _ _ _ _ _ (heap_alloc_new _ _)
   have HSZ : Hid ((Tryz.prog.info? 76).map (·.size) = some (#[L[k].client, L[k].seq, L[k].c, L[k].n, L[k].a, .slice L[k].a1 L[k].n1 L[k].c1, .slice L[k].a2 L[k].n2 L[k].c2] : Array Value).size) := by show _ = _; rw [sea_sz]; rfl
   have HONE : Hid ((#[L[k].client, L[k].seq, L[k].c, L[k].n, L[k].a, .slice L[k].a1 L[k].n1 L[k].c1, .slice L[k].a2 L[k].n2 L[k].c2] : Array Value).all (·.oneCell') = true) := by show _ = true; simp [Value.oneCell']
   have hgw1 := (HGW.out.1.keptH hk1 (fun e => e.elim (fun e => HGW.out.2.1 e) (fun e => HGW.out.2.2 e)))
   have hgn1 : gw ≠ g ∧ v1.ownBlock ≠ some gw := ⟨HGW.out.2.1, fun e => by rcases ho1 gw e with h | h; exact HGW.out.2.2 h; have := HGW.out.1.lt; omega⟩
   have wd := wsea_any (tw := tw) ((wr.alloc (.cells #[(0:Int), (0:Int), (0:Int), (0:Int), (0:Int), (), ()] 76)).setRow wr.heap.size #[L[k].client, L[k].seq, L[k].c, L[k].n, L[k].a, .slice L[k].a1 L[k].n1 L[k].c1, .slice L[k].a2 L[k].n2 L[k].c2]) g v1 _ lg _ gw L[k] M[k] (hp1.below hal) (hgw1.below hal) hgn1 (fun w' hk => (HX.out w' (kept_next hk1 ho1 (((Kept.of_below hal).weaken (fun _ h => h.elim)).trans hk (fun _ _ h => h)))).2 k hkL hkM) (HR.out M[k] (List.getElem_mem hkM)) (by
    have h1 := HLEN.out
    have h2 := encIs_length [(n : Int)] (by intro m hm; rw [List.mem_singleton] at hm; omega)
    have h3 := encG_take_le SeT.bytes M k
    simp only [List.length_append, List.length_singleton] at h2 ⊢
    omega)
   have HRAN := Lh hran
   have HAL := Lh hal
   have HPP := Lh (⟨hp1, hk1, ho1⟩ : _ ∧ _ ∧ _)
   have hk0 : (0 : Int) ≤ k := by omega
   have hk1' : (k : Int) < n := by omega
   have hcap : k < cl := by omega
   clear hrows hrows' hran hal hat hp1 hk1 ho1 hgw1 hgn1
   go_wp2_with (first
    | (refine wpList_load_mid rfl 76 (.tmp 25) rfl b (off + k * 7) rfl [L[k].client, L[k].seq, L[k].c, L[k].n, L[k].a, .slice L[k].a1 L[k].n1 L[k].c1, .slice L[k].a2 L[k].n2 L[k].c2] _ HRAN.out Tryz.underlying76 rfl HSZ.out ?_)
    | (refine wpList_store_row rfl 76 (.tmp 7) (.tmp 26) rfl wr.heap.size #[L[k].client, L[k].seq, L[k].c, L[k].n, L[k].a, .slice L[k].a1 L[k].n1 L[k].c1, .slice L[k].a2 L[k].n2 L[k].c2] rfl rfl 76 #[(0:Int), (0:Int), (0:Int), (0:Int), (0:Int), (), ()] HNEW.out HSZ.out rfl HONE.out ?_)
    | (refine wpList_load_row rfl 76 (.tmp 7) rfl wr.heap.size rfl 76 #[L[k].client, L[k].seq, L[k].c, L[k].n, L[k].a, .slice L[k].a1 L[k].n1 L[k].c1, .slice L[k].a2 L[k].n2 L[k].c2] (0, 0) _ HNEW2.out Tryz.underlying76 rfl HSZ.out ?_)
    | fail)
   refine wd.mono ?_
   clear wd
   rintro e w5 ⟨rfl, hp5⟩
   have HP5 := Lh (PWPost.next' HPP.out.2.1 HPP.out.2.2 (PWPost.pre HAL.out hp5))
   clear hp5
   go_wp2_with fail
   exact ⟨⟨k + 1, by omega, by push_cast; rfl, by
    have h := HP5.out
    rw [List.append_assoc, List.append_assoc, Bool.or_assoc] at h
    rw [encG_snoc _ hkM, anyW_snoc hkM]
    exact h⟩, by simp [intOf]; omega⟩
  ·
   obtain rfl : k = n := by omega
   go_wp2_with fail
   go_end0
   exact ⟨rfl, by have h := HPK.out; rw [List.take_of_length_le (by rw [← HN.out.2.2]; exact Nat.le_refl _)] at h; exact h⟩
def seaB (M : List SeT) : Bool := if 1024 < M.length then true else anyW M
theorem wlistA_sea (w : World) (g : Nat) (v : Value) (l : List UInt8) (lg wb : Bool) (gw : Nat) (vl : Value) (L : List SV) (hp : PW tw [.bool wb] w g v l lg) (hgw : HT w gw tb [.pointer (some ⟨g, 0, none⟩)]) (hgn : gw ≠ g ∧ v.ownBlock ≠ some gw) (M : List SeT) (hLM : L.length = M.length) (hx : ∀ w', Kept (fun k => k = g ∨ v.ownBlock = some k) w w' → Rs SV.vs 7 w' vl L ∧ ∀ i (h : i < L.length) (h' : i < M.length), SVok w' L[i] M[i]) (hr : ∀ x ∈ M, x.ok) (hlen : l.length + (encG SeT.bytes M).length ≤ 90000000) :
  Calls Tryz.prog 66 #[.pointer (some ⟨g, 0, none⟩), vl, .func (.func 67) #[] #[.pointer (some ⟨gw, 0, none⟩)]] w fun e w' => e = .returned (.tuple #[]) ∧ PWPost tw [.bool (wb || seaB M)] w g v (l ++ lwG SeT.bytes M) lg w' := by
 unfold seaB
 by_cases h : 1024 < M.length
 ·
  rw [if_pos h, Bool.or_true, lwG, if_pos h, List.append_nil]
  exact wlist_sea_no w g v l lg wb vl L hp (hx w (Kept.refl _ _)).1 (by omega) _
 ·
  rw [if_neg h, lwG, if_neg h]
  exact wlist_sea w g v l lg wb gw vl L hp hgw hgn M hLM hx hr (by omega) hlen
end Cam
