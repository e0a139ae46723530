import Derived.Test.YtgeclnjkkjmbaaaGreatVg
/- wire.list over the rows of a state. -/
namespace Cam
open Go Go.RowKit Go.Proofs
set_option linter.unusedVariables false
set_option linter.unusedSimpArgs false
set_option maxHeartbeats 3200000
variable {tw tb : TypeId}
theorem wlist_mem_no (w : World) (g : Nat) (v : Value) (l : List UInt8) (lg wb : Bool) (vl : Value) (L : List MbT) (hp : PW tw [.bool wb] w g v l lg) (hx : Rs MbT.vs 3 w vl L) (hn : 1024 < L.length) (vf : Value) :
  Calls Tryz.prog 117 #[.pointer (some ⟨g, 0, none⟩), vl, vf] w fun e w' => e = .returned (.tuple #[]) ∧ PWPost tw [.bool true] w g v l lg w' := by
 obtain ⟨al, cl, rfl, hcl, hml⟩ := hx.shape
 have hc : HT w g tw [v, .bool lg, .bool wb] := hp.1
 have hcell := hc.cell (j := 2) rfl
 have hfr := hc.frozen 2
 have hput := hc.put 2 (.bool true)
 have hk : Kept (fun k => k = g ∨ v.ownBlock = some k) w (w.setCell ⟨g, 2, none⟩ (.bool true)) := (Kept.refl _ w).setCell _ _ (.inl rfl)
 have ho : OwnB 5 (w.setCell ⟨g, 2, none⟩ (.bool true)) (g + 1) v l := OwnB.keptS hp.2 (S := fun k => k = g) ((Kept.refl (fun k => k = g) w).setCell _ _ rfl) (fun k hk (e : k = g) => by have := (hp.row k hk).1; omega)
 have hn1 : (1024 : Int) < (L.length : Int) := by omega
 have HF := Lh (⟨v, ⟨hput, ho⟩, hk, fun k h => .inl h⟩ : PWPost tw [.bool true] w g v l lg (w.setCell ⟨g, 2, none⟩ (.bool true)))
 clear hput hk ho hc hp hx
 go_in
 go_wp2_with fail
 refine bodyPost_ret (results_none rfl _ _ _) rfl ?_
 exact ⟨rfl, HF.out⟩
theorem wlist_mem (w : World) (g : Nat) (v : Value) (l : List UInt8) (lg wb : Bool) (gw : Nat) (vl : Value) (L : List MbT) (hp : PW tw [.bool wb] w g v l lg) (hgw : HT w gw tb [.pointer (some ⟨g, 0, none⟩)]) (hgn : gw ≠ g ∧ v.ownBlock ≠ some gw) (hx : ∀ w', Kept (fun k => k = g ∨ v.ownBlock = some k) w w' → Rs MbT.vs 3 w' vl L) (hr : ∀ x ∈ L, okI x.ints) (hn : L.length ≤ 1024) (hlen : l.length ≤ 1000000000) :
  Calls Tryz.prog 117 #[.pointer (some ⟨g, 0, none⟩), vl, .func (.func 118) #[] #[.pointer (some ⟨gw, 0, none⟩)]] w fun e w' => e = .returned (.tuple #[]) ∧ PWPost tw [.bool wb] w g v (l ++ (encIs [(L.length : Int)] ++ encG MbT.bytes L)) lg w' := by
 obtain ⟨al, cl, rfl, hcl, hml⟩ := (hx w (Kept.refl _ _)).shape
 obtain ⟨n, hN⟩ : ∃ n, n = L.length := ⟨_, rfl⟩
 have hbx : Below w.heap.size w (w.alloc (.cells #[(n : Int)] 3)) := Bn
 have his : Is (w.alloc (.cells #[(n : Int)] 3)) (.slice (some ⟨w.heap.size, 0, none⟩) 1 1) [(n : Int)] := Is.block (l := [(n : Int)]) (heap_new rfl) (Nat.le_refl _) (by simp [maxLen])
 have wi := WInt_any (w.alloc (.cells #[(n : Int)] 3)) g v l lg _ _ (hp.below hbx) his (fun w2 hk => his.kept1 hk (fun _ k hi e => by
  obtain ⟨ad, n, c, hv, rfl⟩ := hi
  injection hv with h5
  injection h5 with h5
  subst h5
  rcases e with e | e
  ·
   have := hp.lt
   simp only at e
   omega
  ·
   have := (hp.row _ e).2
   simp only at this
   omega)) (by intro m hm; rw [List.mem_singleton] at hm; omega) (by simp; omega)
 have HP := Lh hp
 have HX := Lh hx
 have HR := Lh hr
 have HBX := Lh hbx
 have HGW := Lh (⟨hgw, hgn⟩ : _ ∧ _)
 have HN : Hid (n = L.length ∧ n ≤ 1024) := ⟨hN, by omega⟩
 have HLEN := Lh hlen
 have hn1 : (n : Int) ≤ 1024 := by omega
 rw [← hN] at hcl ⊢
 clear hbx his hp hx hr hlen hN hn hgw hgn
 go_in
 go_wp2_with fail
 refine wi.mono ?_
 clear wi
 rintro e w1 ⟨rfl, hp1⟩
 have HP1 := Lh (PWPost.pre HBX.out hp1)
 clear hp1
 go_wp2_with fail
 go_loopw [23] (fun v23 wr => ∃ k : Nat, k ≤ n ∧ v23 = .int .i64 k ∧ PWPost tw [.bool wb] w g v (l ++ (encIs [(n : Int)] ++ encG MbT.bytes (L.take k))) lg wr) (fun i _ => n - (intOf i).toNat)
 case atStart => exact ⟨0, Nat.zero_le _, rfl, by simpa [encG] using HP1.out⟩
 case round =>
  obtain ⟨k, hk, rfl, hpk⟩ := hrel
  have HPK := Lh hpk
  clear hpk
  by_cases hlt : k < n
  ·
   obtain ⟨v1, hp1, hk1, ho1⟩ := HPK.out
   have hrows := HX.out wr hk1
   have hkL : k < L.length := by rw [← HN.out.1]; exact hlt
   have hrows' : Rs MbT.vs 3 wr (.slice al n cl) L := by rw [HN.out.1]; exact hrows
   obtain ⟨b, off, rfl, hbw, hat⟩ := hrows'.at (by omega) (by decide)
   have hran : wr.rangeAt b (off + k * 3) [L[k].no, L[k].state, L[k].need] := fun j u hu => hat k hkL j u hu
   have hal : Below wr.heap.size wr ((wr.alloc (.cells #[(0:Int), (0:Int), (0:Int)] 86)).setRow wr.heap.size #[L[k].no, L[k].state, L[k].need]) := (Bn).trans (setRow_below (Nat.le_refl _) _)
   have HNEW : Hid ((wr.alloc (.cells #[(0:Int), (0:Int), (0:Int)] 86)).heap[wr.heap.size]? = some (.cells #[(0:Int), (0:Int), (0:Int)] 86 (0, 0))) := heap_alloc_new _ _
   have HNEW2 : Hid (((wr.alloc (.cells #[(0:Int), (0:Int), (0:Int)] 86)).setRow wr.heap.size #[L[k].no, L[k].state, L[k].need]).heap[wr.heap.size]? = some (.cells #[L[k].no, L[k].state, L[k].need] 86 (0, 0))) := setRow_heap _ _ _ _ _ _ (heap_alloc_new _ _)
   have HSZ : Hid ((Tryz.prog.info? 86).map (·.size) = some (#[L[k].no, L[k].state, L[k].need] : Array Value).size) := by show _ = _; rw [mem_sz]; rfl
   have HONE : Hid ((#[L[k].no, L[k].state, L[k].need] : Array Value).all (·.oneCell') = true) := by show _ = true; simp [Value.oneCell']
   have hgw1 := (HGW.out.1.keptH hk1 (fun e => e.elim (fun e => HGW.out.2.1 e) (fun e => HGW.out.2.2 e)))
   have hgn1 : gw ≠ g ∧ v1.ownBlock ≠ some gw := ⟨HGW.out.2.1, fun e => by rcases ho1 gw e with h | h; exact HGW.out.2.2 h; have := HGW.out.1.lt; omega⟩
   have wd := wmem_any (rs := [.bool wb]) (tw := tw) ((wr.alloc (.cells #[(0:Int), (0:Int), (0:Int)] 86)).setRow wr.heap.size #[L[k].no, L[k].state, L[k].need]) g v1 _ lg gw L[k] (hp1.below hal) (hgw1.below hal) hgn1 (HR.out L[k] (List.getElem_mem hkL)) (by
    have h1 := HLEN.out
    have h2 := encIs_length [(n : Int)] (by intro m hm; rw [List.mem_singleton] at hm; omega)
    have h3 := encG_length MbT.bytes 200 (L.take k) (fun x hx => MbT.blen x (HR.out x (List.mem_of_mem_take hx)))
    rw [List.length_take] at h3
    simp only [List.length_append, List.length_singleton] at h2 ⊢
    have := HN.out.2
    have : min k L.length ≤ 1024 := by omega
    omega)
   have HRAN := Lh hran
   have HAL := Lh hal
   have HPP := Lh (⟨hp1, hk1, ho1⟩ : _ ∧ _ ∧ _)
   have hk0 : (0 : Int) ≤ k := by omega
   have hk1' : (k : Int) < n := by omega
   have hcap : k < cl := by omega
   clear hrows hrows' hran hal hat hp1 hk1 ho1 hgw1 hgn1
   go_wp2_with (first
    | (refine wpList_load_mid rfl 86 (.tmp 25) rfl b (off + k * 3) rfl [L[k].no, L[k].state, L[k].need] _ HRAN.out Tryz.underlying86 rfl HSZ.out ?_)
    | (refine wpList_store_row rfl 86 (.tmp 7) (.tmp 26) rfl wr.heap.size #[L[k].no, L[k].state, L[k].need] rfl rfl 86 #[(0:Int), (0:Int), (0:Int)] HNEW.out HSZ.out rfl HONE.out ?_)
    | (refine wpList_load_row rfl 86 (.tmp 7) rfl wr.heap.size rfl 86 #[L[k].no, L[k].state, L[k].need] (0, 0) _ HNEW2.out Tryz.underlying86 rfl HSZ.out ?_)
    | fail)
   refine wd.mono ?_
   clear wd
   rintro e w5 ⟨rfl, hp5⟩
   have HP5 := Lh (PWPost.next HPP.out (PWPost.pre HAL.out hp5))
   clear hp5
   go_wp2_with fail
   exact ⟨⟨k + 1, by omega, by push_cast; rfl, by
    have h := HP5.out
    rw [List.append_assoc, List.append_assoc] at h
    rw [encG_snoc _ hkL]
    exact h⟩, by simp [intOf]; omega⟩
  ·
   obtain rfl : k = n := by omega
   go_wp2_with fail
   go_end0
   exact ⟨rfl, by have h := HPK.out; rwa [List.take_of_length_le (by rw [← HN.out.1]; exact Nat.le_refl _)] at h⟩
theorem wlistA_mem (w : World) (g : Nat) (v : Value) (l : List UInt8) (lg wb : Bool) (gw : Nat) (vl : Value) (L : List MbT) (hp : PW tw [.bool wb] w g v l lg) (hgw : HT w gw tb [.pointer (some ⟨g, 0, none⟩)]) (hgn : gw ≠ g ∧ v.ownBlock ≠ some gw) (hx : ∀ w', Kept (fun k => k = g ∨ v.ownBlock = some k) w w' → Rs MbT.vs 3 w' vl L) (hr : ∀ x ∈ L, okI x.ints) (hlen : l.length ≤ 1000000000) :
  Calls Tryz.prog 117 #[.pointer (some ⟨g, 0, none⟩), vl, .func (.func 118) #[] #[.pointer (some ⟨gw, 0, none⟩)]] w fun e w' => e = .returned (.tuple #[]) ∧ PWPost tw [.bool (wb || decide (1024 < L.length))] w g v (l ++ lwG MbT.bytes L) lg w' := by
 by_cases h : 1024 < L.length
 ·
  rw [decide_eq_true h, Bool.or_true, lwG, if_pos h, List.append_nil]
  exact wlist_mem_no w g v l lg wb vl L hp (hx w (Kept.refl _ _)) h _
 ·
  rw [decide_eq_false h, Bool.or_false, lwG, if_neg h]
  exact wlist_mem w g v l lg wb gw vl L hp hgw hgn hx hr (by omega) hlen
theorem wlist_ins_no (w : World) (g : Nat) (v : Value) (l : List UInt8) (lg wb : Bool) (vl : Value) (L : List InT) (hp : PW tw [.bool wb] w g v l lg) (hx : Rs InT.vs 12 w vl L) (hn : 1024 < L.length) (vf : Value) :
  Calls Tryz.prog 119 #[.pointer (some ⟨g, 0, none⟩), vl, vf] w fun e w' => e = .returned (.tuple #[]) ∧ PWPost tw [.bool true] w g v l lg w' := by
 obtain ⟨al, cl, rfl, hcl, hml⟩ := hx.shape
 have hc : HT w g tw [v, .bool lg, .bool wb] := hp.1
 have hcell := hc.cell (j := 2) rfl
 have hfr := hc.frozen 2
 have hput := hc.put 2 (.bool true)
 have hk : Kept (fun k => k = g ∨ v.ownBlock = some k) w (w.setCell ⟨g, 2, none⟩ (.bool true)) := (Kept.refl _ w).setCell _ _ (.inl rfl)
 have ho : OwnB 5 (w.setCell ⟨g, 2, none⟩ (.bool true)) (g + 1) v l := OwnB.keptS hp.2 (S := fun k => k = g) ((Kept.refl (fun k => k = g) w).setCell _ _ rfl) (fun k hk (e : k = g) => by have := (hp.row k hk).1; omega)
 have hn1 : (1024 : Int) < (L.length : Int) := by omega
 have HF := Lh (⟨v, ⟨hput, ho⟩, hk, fun k h => .inl h⟩ : PWPost tw [.bool true] w g v l lg (w.setCell ⟨g, 2, none⟩ (.bool true)))
 clear hput hk ho hc hp hx
 go_in
 go_wp2_with fail
 refine bodyPost_ret (results_none rfl _ _ _) rfl ?_
 exact ⟨rfl, HF.out⟩
theorem wlist_ins (w : World) (g : Nat) (v : Value) (l : List UInt8) (lg wb : Bool) (gw : Nat) (vl : Value) (L : List InT) (hp : PW tw [.bool wb] w g v l lg) (hgw : HT w gw tb [.pointer (some ⟨g, 0, none⟩)]) (hgn : gw ≠ g ∧ v.ownBlock ≠ some gw) (hx : ∀ w', Kept (fun k => k = g ∨ v.ownBlock = some k) w w' → Rs InT.vs 12 w' vl L) (hr : ∀ x ∈ L, okI x.ints) (hn : L.length ≤ 1024) (hlen : l.length ≤ 1000000000) :
  Calls Tryz.prog 119 #[.pointer (some ⟨g, 0, none⟩), vl, .func (.func 120) #[] #[.pointer (some ⟨gw, 0, none⟩)]] w fun e w' => e = .returned (.tuple #[]) ∧ PWPost tw [.bool wb] w g v (l ++ (encIs [(L.length : Int)] ++ encG InT.bytes L)) lg w' := by
 obtain ⟨al, cl, rfl, hcl, hml⟩ := (hx w (Kept.refl _ _)).shape
 obtain ⟨n, hN⟩ : ∃ n, n = L.length := ⟨_, rfl⟩
 have hbx : Below w.heap.size w (w.alloc (.cells #[(n : Int)] 3)) := Bn
 have his : Is (w.alloc (.cells #[(n : Int)] 3)) (.slice (some ⟨w.heap.size, 0, none⟩) 1 1) [(n : Int)] := Is.block (l := [(n : Int)]) (heap_new rfl) (Nat.le_refl _) (by simp [maxLen])
 have wi := WInt_any (w.alloc (.cells #[(n : Int)] 3)) g v l lg _ _ (hp.below hbx) his (fun w2 hk => his.kept1 hk (fun _ k hi e => by
  obtain ⟨ad, n, c, hv, rfl⟩ := hi
  injection hv with h5
  injection h5 with h5
  subst h5
  rcases e with e | e
  ·
   have := hp.lt
   simp only at e
   omega
  ·
   have := (hp.row _ e).2
   simp only at this
   omega)) (by intro m hm; rw [List.mem_singleton] at hm; omega) (by simp; omega)
 have HP := Lh hp
 have HX := Lh hx
 have HR := Lh hr
 have HBX := Lh hbx
 have HGW := Lh (⟨hgw, hgn⟩ : _ ∧ _)
 have HN : Hid (n = L.length ∧ n ≤ 1024) := ⟨hN, by omega⟩
 have HLEN := Lh hlen
 have hn1 : (n : Int) ≤ 1024 := by omega
 rw [← hN] at hcl ⊢
 clear hbx his hp hx hr hlen hN hn hgw hgn
 go_in
 go_wp2_with fail
 refine wi.mono ?_
 clear wi
 rintro e w1 ⟨rfl, hp1⟩
 have HP1 := Lh (PWPost.pre HBX.out hp1)
 clear hp1
 go_wp2_with fail
 go_loopw [23] (fun v23 wr => ∃ k : Nat, k ≤ n ∧ v23 = .int .i64 k ∧ PWPost tw [.bool wb] w g v (l ++ (encIs [(n : Int)] ++ encG InT.bytes (L.take k))) lg wr) (fun i _ => n - (intOf i).toNat)
 case atStart => exact ⟨0, Nat.zero_le _, rfl, by simpa [encG] using HP1.out⟩
 case round =>
  obtain ⟨k, hk, rfl, hpk⟩ := hrel
  have HPK := Lh hpk
  clear hpk
  by_cases hlt : k < n
  ·
   obtain ⟨v1, hp1, hk1, ho1⟩ := HPK.out
   have hrows := HX.out wr hk1
   have hkL : k < L.length := by rw [← HN.out.1]; exact hlt
   have hrows' : Rs InT.vs 12 wr (.slice al n cl) L := by rw [HN.out.1]; exact hrows
   obtain ⟨b, off, rfl, hbw, hat⟩ := hrows'.at (by omega) (by decide)
   have hran : wr.rangeAt b (off + k * 12) [L[k].no, L[k].cur, L[k].mult, L[k].add, L[k].set, L[k].price, L[k].h0, L[k].h1, L[k].h2, L[k].h3, L[k].h4, L[k].h5] := fun j u hu => hat k hkL j u hu
   have hal : Below wr.heap.size wr ((wr.alloc (.cells #[(0:Int), (0:Int), (0:Int), (0:Int), (0:Int), (0:Int), (0:Int), (0:Int), (0:Int), (0:Int), (0:Int), (0:Int)] 88)).setRow wr.heap.size #[L[k].no, L[k].cur, L[k].mult, L[k].add, L[k].set, L[k].price, L[k].h0, L[k].h1, L[k].h2, L[k].h3, L[k].h4, L[k].h5]) := (Bn).trans (setRow_below (Nat.le_refl _) _)
   have HNEW : Hid ((wr.alloc (.cells #[(0:Int), (0:Int), (0:Int), (0:Int), (0:Int), (0:Int), (0:Int), (0:Int), (0:Int), (0:Int), (0:Int), (0:Int)] 88)).heap[wr.heap.size]? = some (.cells #[(0:Int), (0:Int), (0:Int), (0:Int), (0:Int), (0:Int), (0:Int), (0:Int), (0:Int), (0:Int), (0:Int), (0:Int)] 88 (0, 0))) := heap_alloc_new _ _
   have HNEW2 : Hid (((wr.alloc (.cells #[(0:Int), (0:Int), (0:Int), (0:Int), (0:Int), (0:Int), (0:Int), (0:Int), (0:Int), (0:Int), (0:Int), (0:Int)] 88)).setRow wr.heap.size #[L[k].no, L[k].cur, L[k].mult, L[k].add, L[k].set, L[k].price, L[k].h0, L[k].h1, L[k].h2, L[k].h3, L[k].h4, L[k].h5]).heap[wr.heap.size]? = some (.cells #[L[k].no, L[k].cur, L[k].mult, L[k].add, L[k].set, L[k].price, L[k].h0, L[k].h1, L[k].h2, L[k].h3, L[k].h4, L[k].h5] 88 (0, 0))) := setRow_heap _ _ _ _ _ _ (heap_alloc_new _ _)
   have HSZ : Hid ((Tryz.prog.info? 88).map (·.size) = some (#[L[k].no, L[k].cur, L[k].mult, L[k].add, L[k].set, L[k].price, L[k].h0, L[k].h1, L[k].h2, L[k].h3, L[k].h4, L[k].h5] : Array Value).size) := by show _ = _; rw [ins_sz]; rfl
   have HONE : Hid ((#[L[k].no, L[k].cur, L[k].mult, L[k].add, L[k].set, L[k].price, L[k].h0, L[k].h1, L[k].h2, L[k].h3, L[k].h4, L[k].h5] : Array Value).all (·.oneCell') = true) := by show _ = true; simp [Value.oneCell']
   have hgw1 := (HGW.out.1.keptH hk1 (fun e => e.elim (fun e => HGW.out.2.1 e) (fun e => HGW.out.2.2 e)))
   have hgn1 : gw ≠ g ∧ v1.ownBlock ≠ some gw := ⟨HGW.out.2.1, fun e => by rcases ho1 gw e with h | h; exact HGW.out.2.2 h; have := HGW.out.1.lt; omega⟩
   have wd := wins_any (rs := [.bool wb]) (tw := tw) ((wr.alloc (.cells #[(0:Int), (0:Int), (0:Int), (0:Int), (0:Int), (0:Int), (0:Int), (0:Int), (0:Int), (0:Int), (0:Int), (0:Int)] 88)).setRow wr.heap.size #[L[k].no, L[k].cur, L[k].mult, L[k].add, L[k].set, L[k].price, L[k].h0, L[k].h1, L[k].h2, L[k].h3, L[k].h4, L[k].h5]) g v1 _ lg gw L[k] (hp1.below hal) (hgw1.below hal) hgn1 (HR.out L[k] (List.getElem_mem hkL)) (by
    have h1 := HLEN.out
    have h2 := encIs_length [(n : Int)] (by intro m hm; rw [List.mem_singleton] at hm; omega)
    have h3 := encG_length InT.bytes 200 (L.take k) (fun x hx => InT.blen x (HR.out x (List.mem_of_mem_take hx)))
    rw [List.length_take] at h3
    simp only [List.length_append, List.length_singleton] at h2 ⊢
    have := HN.out.2
    have : min k L.length ≤ 1024 := by omega
    omega)
   have HRAN := Lh hran
   have HAL := Lh hal
   have HPP := Lh (⟨hp1, hk1, ho1⟩ : _ ∧ _ ∧ _)
   have hk0 : (0 : Int) ≤ k := by omega
   have hk1' : (k : Int) < n := by omega
   have hcap : k < cl := by omega
   clear hrows hrows' hran hal hat hp1 hk1 ho1 hgw1 hgn1
   go_wp2_with (first
    | (refine wpList_load_mid rfl 88 (.tmp 25) rfl b (off + k * 12) rfl [L[k].no, L[k].cur, L[k].mult, L[k].add, L[k].set, L[k].price, L[k].h0, L[k].h1, L[k].h2, L[k].h3, L[k].h4, L[k].h5] _ HRAN.out Tryz.underlying88 rfl HSZ.out ?_)
    | (refine wpList_store_row rfl 88 (.tmp 7) (.tmp 26) rfl wr.heap.size #[L[k].no, L[k].cur, L[k].mult, L[k].add, L[k].set, L[k].price, L[k].h0, L[k].h1, L[k].h2, L[k].h3, L[k].h4, L[k].h5] rfl rfl 88 #[(0:Int), (0:Int), (0:Int), (0:Int), (0:Int), (0:Int), (0:Int), (0:Int), (0:Int), (0:Int), (0:Int), (0:Int)] HNEW.out HSZ.out rfl HONE.out ?_)
    | (refine wpList_load_row rfl 88 (.tmp 7) rfl wr.heap.size rfl 88 #[L[k].no, L[k].cur, L[k].mult, L[k].add, L[k].set, L[k].price, L[k].h0, L[k].h1, L[k].h2, L[k].h3, L[k].h4, L[k].h5] (0, 0) _ HNEW2.out Tryz.underlying88 rfl HSZ.out ?_)
    | fail)
   refine wd.mono ?_
   clear wd
   rintro e w5 ⟨rfl, hp5⟩
   have HP5 := Lh (PWPost.next HPP.out (PWPost.pre HAL.out hp5))
   clear hp5
   go_wp2_with fail
   exact ⟨⟨k + 1, by omega, by push_cast; rfl, by
    have h := HP5.out
    rw [List.append_assoc, List.append_assoc] at h
    rw [encG_snoc _ hkL]
    exact h⟩, by simp [intOf]; omega⟩
  ·
   obtain rfl : k = n := by omega
   go_wp2_with fail
   go_end0
   exact ⟨rfl, by have h := HPK.out; rwa [List.take_of_length_le (by rw [← HN.out.1]; exact Nat.le_refl _)] at h⟩
theorem wlistA_ins (w : World) (g : Nat) (v : Value) (l : List UInt8) (lg wb : Bool) (gw : Nat) (vl : Value) (L : List InT) (hp : PW tw [.bool wb] w g v l lg) (hgw : HT w gw tb [.pointer (some ⟨g, 0, none⟩)]) (hgn : gw ≠ g ∧ v.ownBlock ≠ some gw) (hx : ∀ w', Kept (fun k => k = g ∨ v.ownBlock = some k) w w' → Rs InT.vs 12 w' vl L) (hr : ∀ x ∈ L, okI x.ints) (hlen : l.length ≤ 1000000000) :
  Calls Tryz.prog 119 #[.pointer (some ⟨g, 0, none⟩), vl, .func (.func 120) #[] #[.pointer (some ⟨gw, 0, none⟩)]] w fun e w' => e = .returned (.tuple #[]) ∧ PWPost tw [.bool (wb || decide (1024 < L.length))] w g v (l ++ lwG InT.bytes L) lg w' := by
 by_cases h : 1024 < L.length
 ·
  rw [decide_eq_true h, Bool.or_true, lwG, if_pos h, List.append_nil]
  exact wlist_ins_no w g v l lg wb vl L hp (hx w (Kept.refl _ _)) h _
 ·
  rw [decide_eq_false h, Bool.or_false, lwG, if_neg h]
  exact wlist_ins w g v l lg wb gw vl L hp hgw hgn hx hr (by omega) hlen
theorem wlist_ass_no (w : World) (g : Nat) (v : Value) (l : List UInt8) (lg wb : Bool) (vl : Value) (L : List AsT) (hp : PW tw [.bool wb] w g v l lg) (hx : Rs AsT.vs 4 w vl L) (hn : 1024 < L.length) (vf : Value) :
  Calls Tryz.prog 121 #[.pointer (some ⟨g, 0, none⟩), vl, vf] w fun e w' => e = .returned (.tuple #[]) ∧ PWPost tw [.bool true] w g v l lg w' := by
 obtain ⟨al, cl, rfl, hcl, hml⟩ := hx.shape
 have hc : HT w g tw [v, .bool lg, .bool wb] := hp.1
 have hcell := hc.cell (j := 2) rfl
 have hfr := hc.frozen 2
 have hput := hc.put 2 (.bool true)
 have hk : Kept (fun k => k = g ∨ v.ownBlock = some k) w (w.setCell ⟨g, 2, none⟩ (.bool true)) := (Kept.refl _ w).setCell _ _ (.inl rfl)
 have ho : OwnB 5 (w.setCell ⟨g, 2, none⟩ (.bool true)) (g + 1) v l := OwnB.keptS hp.2 (S := fun k => k = g) ((Kept.refl (fun k => k = g) w).setCell _ _ rfl) (fun k hk (e : k = g) => by have := (hp.row k hk).1; omega)
 have hn1 : (1024 : Int) < (L.length : Int) := by omega
 have HF := Lh (⟨v, ⟨hput, ho⟩, hk, fun k h => .inl h⟩ : PWPost tw [.bool true] w g v l lg (w.setCell ⟨g, 2, none⟩ (.bool true)))
 clear hput hk ho hc hp hx
 go_in
 go_wp2_with fail
 refine bodyPost_ret (results_none rfl _ _ _) rfl ?_
 exact ⟨rfl, HF.out⟩
theorem wlist_ass (w : World) (g : Nat) (v : Value) (l : List UInt8) (lg wb : Bool) (gw : Nat) (vl : Value) (L : List AsT) (hp : PW tw [.bool wb] w g v l lg) (hgw : HT w gw tb [.pointer (some ⟨g, 0, none⟩)]) (hgn : gw ≠ g ∧ v.ownBlock ≠ some gw) (hx : ∀ w', Kept (fun k => k = g ∨ v.ownBlock = some k) w w' → Rs AsT.vs 4 w' vl L) (hr : ∀ x ∈ L, okI x.ints) (hn : L.length ≤ 1024) (hlen : l.length ≤ 1000000000) :
  Calls Tryz.prog 121 #[.pointer (some ⟨g, 0, none⟩), vl, .func (.func 122) #[] #[.pointer (some ⟨gw, 0, none⟩)]] w fun e w' => e = .returned (.tuple #[]) ∧ PWPost tw [.bool wb] w g v (l ++ (encIs [(L.length : Int)] ++ encG AsT.bytes L)) lg w' := by
 obtain ⟨al, cl, rfl, hcl, hml⟩ := (hx w (Kept.refl _ _)).shape
 obtain ⟨n, hN⟩ : ∃ n, n = L.length := ⟨_, rfl⟩
 have hbx : Below w.heap.size w (w.alloc (.cells #[(n : Int)] 3)) := Bn
 have his : Is (w.alloc (.cells #[(n : Int)] 3)) (.slice (some ⟨w.heap.size, 0, none⟩) 1 1) [(n : Int)] := Is.block (l := [(n : Int)]) (heap_new rfl) (Nat.le_refl _) (by simp [maxLen])
 have wi := WInt_any (w.alloc (.cells #[(n : Int)] 3)) g v l lg _ _ (hp.below hbx) his (fun w2 hk => his.kept1 hk (fun _ k hi e => by
  obtain ⟨ad, n, c, hv, rfl⟩ := hi
  injection hv with h5
  injection h5 with h5
  subst h5
  rcases e with e | e
  ·
   have := hp.lt
   simp only at e
   omega
  ·
   have := (hp.row _ e).2
   simp only at this
   omega)) (by intro m hm; rw [List.mem_singleton] at hm; omega) (by simp; omega)
 have HP := Lh hp
 have HX := Lh hx
 have HR := Lh hr
 have HBX := Lh hbx
 have HGW := Lh (⟨hgw, hgn⟩ : _ ∧ _)
 have HN : Hid (n = L.length ∧ n ≤ 1024) := ⟨hN, by omega⟩
 have HLEN := Lh hlen
 have hn1 : (n : Int) ≤ 1024 := by omega
 rw [← hN] at hcl ⊢
 clear hbx his hp hx hr hlen hN hn hgw hgn
 go_in
 go_wp2_with fail
 refine wi.mono ?_
 clear wi
 rintro e w1 ⟨rfl, hp1⟩
 have HP1 := Lh (PWPost.pre HBX.out hp1)
 clear hp1
 go_wp2_with fail
 go_loopw [23] (fun v23 wr => ∃ k : Nat, k ≤ n ∧ v23 = .int .i64 k ∧ PWPost tw [.bool wb] w g v (l ++ (encIs [(n : Int)] ++ encG AsT.bytes (L.take k))) lg wr) (fun i _ => n - (intOf i).toNat)
 case atStart => exact ⟨0, Nat.zero_le _, rfl, by simpa [encG] using HP1.out⟩
 case round =>
  obtain ⟨k, hk, rfl, hpk⟩ := hrel
  have HPK := Lh hpk
  clear hpk
  by_cases hlt : k < n
  ·
   obtain ⟨v1, hp1, hk1, ho1⟩ := HPK.out
   have hrows := HX.out wr hk1
   have hkL : k < L.length := by rw [← HN.out.1]; exact hlt
   have hrows' : Rs AsT.vs 4 wr (.slice al n cl) L := by rw [HN.out.1]; exact hrows
   obtain ⟨b, off, rfl, hbw, hat⟩ := hrows'.at (by omega) (by decide)
   have hran : wr.rangeAt b (off + k * 4) [L[k].no, L[k].cur, L[k].price, L[k].cut] := fun j u hu => hat k hkL j u hu
   have hal : Below wr.heap.size wr ((wr.alloc (.cells #[(0:Int), (0:Int), (0:Int), (0:Int)] 91)).setRow wr.heap.size #[L[k].no, L[k].cur, L[k].price, L[k].cut]) := (Bn).trans (setRow_below (Nat.le_refl _) _)
   have HNEW : Hid ((wr.alloc (.cells #[(0:Int), (0:Int), (0:Int), (0:Int)] 91)).heap[wr.heap.size]? = some (.cells #[(0:Int), (0:Int), (0:Int), (0:Int)] 91 (0, 0))) := heap_alloc_new _ _
   have HNEW2 : Hid (((wr.alloc (.cells #[(0:Int), (0:Int), (0:Int), (0:Int)] 91)).setRow wr.heap.size #[L[k].no, L[k].cur, L[k].price, L[k].cut]).heap[wr.heap.size]? = some (.cells #[L[k].no, L[k].cur, L[k].price, L[k].cut] 91 (0, 0))) := setRow_heap _ _ _ _ _ _ (heap_alloc_new _ _)
   have HSZ : Hid ((Tryz.prog.info? 91).map (·.size) = some (#[L[k].no, L[k].cur, L[k].price, L[k].cut] : Array Value).size) := by show _ = _; rw [ass_sz]; rfl
   have HONE : Hid ((#[L[k].no, L[k].cur, L[k].price, L[k].cut] : Array Value).all (·.oneCell') = true) := by show _ = true; simp [Value.oneCell']
   have hgw1 := (HGW.out.1.keptH hk1 (fun e => e.elim (fun e => HGW.out.2.1 e) (fun e => HGW.out.2.2 e)))
   have hgn1 : gw ≠ g ∧ v1.ownBlock ≠ some gw := ⟨HGW.out.2.1, fun e => by rcases ho1 gw e with h | h; exact HGW.out.2.2 h; have := HGW.out.1.lt; omega⟩
   have wd := wass_any (rs := [.bool wb]) (tw := tw) ((wr.alloc (.cells #[(0:Int), (0:Int), (0:Int), (0:Int)] 91)).setRow wr.heap.size #[L[k].no, L[k].cur, L[k].price, L[k].cut]) g v1 _ lg gw L[k] (hp1.below hal) (hgw1.below hal) hgn1 (HR.out L[k] (List.getElem_mem hkL)) (by
    have h1 := HLEN.out
    have h2 := encIs_length [(n : Int)] (by intro m hm; rw [List.mem_singleton] at hm; omega)
    have h3 := encG_length AsT.bytes 200 (L.take k) (fun x hx => AsT.blen x (HR.out x (List.mem_of_mem_take hx)))
    rw [List.length_take] at h3
    simp only [List.length_append, List.length_singleton] at h2 ⊢
    have := HN.out.2
    have : min k L.length ≤ 1024 := by omega
    omega)
   have HRAN := Lh hran
   have HAL := Lh hal
   have HPP := Lh (⟨hp1, hk1, ho1⟩ : _ ∧ _ ∧ _)
   have hk0 : (0 : Int) ≤ k := by omega
   have hk1' : (k : Int) < n := by omega
   have hcap : k < cl := by omega
   clear hrows hrows' hran hal hat hp1 hk1 ho1 hgw1 hgn1
   go_wp2_with (first
    | (refine wpList_load_mid rfl 91 (.tmp 25) rfl b (off + k * 4) rfl [L[k].no, L[k].cur, L[k].price, L[k].cut] _ HRAN.out Tryz.underlying91 rfl HSZ.out ?_)
    | (refine wpList_store_row rfl 91 (.tmp 7) (.tmp 26) rfl wr.heap.size #[L[k].no, L[k].cur, L[k].price, L[k].cut] rfl rfl 91 #[(0:Int), (0:Int), (0:Int), (0:Int)] HNEW.out HSZ.out rfl HONE.out ?_)
    | (refine wpList_load_row rfl 91 (.tmp 7) rfl wr.heap.size rfl 91 #[L[k].no, L[k].cur, L[k].price, L[k].cut] (0, 0) _ HNEW2.out Tryz.underlying91 rfl HSZ.out ?_)
    | fail)
   refine wd.mono ?_
   clear wd
   rintro e w5 ⟨rfl, hp5⟩
   have HP5 := Lh (PWPost.next HPP.out (PWPost.pre HAL.out hp5))
   clear hp5
   go_wp2_with fail
   exact ⟨⟨k + 1, by omega, by push_cast; rfl, by
    have h := HP5.out
    rw [List.append_assoc, List.append_assoc] at h
    rw [encG_snoc _ hkL]
    exact h⟩, by simp [intOf]; omega⟩
  ·
   obtain rfl : k = n := by omega
   go_wp2_with fail
   go_end0
   exact ⟨rfl, by have h := HPK.out; rwa [List.take_of_length_le (by rw [← HN.out.1]; exact Nat.le_refl _)] at h⟩
theorem wlistA_ass (w : World) (g : Nat) (v : Value) (l : List UInt8) (lg wb : Bool) (gw : Nat) (vl : Value) (L : List AsT) (hp : PW tw [.bool wb] w g v l lg) (hgw : HT w gw tb [.pointer (some ⟨g, 0, none⟩)]) (hgn : gw ≠ g ∧ v.ownBlock ≠ some gw) (hx : ∀ w', Kept (fun k => k = g ∨ v.ownBlock = some k) w w' → Rs AsT.vs 4 w' vl L) (hr : ∀ x ∈ L, okI x.ints) (hlen : l.length ≤ 1000000000) :
  Calls Tryz.prog 121 #[.pointer (some ⟨g, 0, none⟩), vl, .func (.func 122) #[] #[.pointer (some ⟨gw, 0, none⟩)]] w fun e w' => e = .returned (.tuple #[]) ∧ PWPost tw [.bool (wb || decide (1024 < L.length))] w g v (l ++ lwG AsT.bytes L) lg w' := by
 by_cases h : 1024 < L.length
 ·
  rw [decide_eq_true h, Bool.or_true, lwG, if_pos h, List.append_nil]
  exact wlist_ass_no w g v l lg wb vl L hp (hx w (Kept.refl _ _)) h _
 ·
  rw [decide_eq_false h, Bool.or_false, lwG, if_neg h]
  exact wlist_ass w g v l lg wb gw vl L hp hgw hgn hx hr (by omega) hlen
theorem wlist_trd_no (w : World) (g : Nat) (v : Value) (l : List UInt8) (lg wb : Bool) (vl : Value) (L : List TrT) (hp : PW tw [.bool wb] w g v l lg) (hx : Rs TrT.vs 7 w vl L) (hn : 1024 < L.length) (vf : Value) :
  Calls Tryz.prog 123 #[.pointer (some ⟨g, 0, none⟩), vl, vf] w fun e w' => e = .returned (.tuple #[]) ∧ PWPost tw [.bool true] w g v l lg w' := by
 obtain ⟨al, cl, rfl, hcl, hml⟩ := hx.shape
 have hc : HT w g tw [v, .bool lg, .bool wb] := hp.1
 have hcell := hc.cell (j := 2) rfl
 have hfr := hc.frozen 2
 have hput := hc.put 2 (.bool true)
 have hk : Kept (fun k => k = g ∨ v.ownBlock = some k) w (w.setCell ⟨g, 2, none⟩ (.bool true)) := (Kept.refl _ w).setCell _ _ (.inl rfl)
 have ho : OwnB 5 (w.setCell ⟨g, 2, none⟩ (.bool true)) (g + 1) v l := OwnB.keptS hp.2 (S := fun k => k = g) ((Kept.refl (fun k => k = g) w).setCell _ _ rfl) (fun k hk (e : k = g) => by have := (hp.row k hk).1; omega)
 have hn1 : (1024 : Int) < (L.length : Int) := by omega
 have HF := Lh (⟨v, ⟨hput, ho⟩, hk, fun k h => .inl h⟩ : PWPost tw [.bool true] w g v l lg (w.setCell ⟨g, 2, none⟩ (.bool true)))
 clear hput hk ho hc hp hx
 go_in
 go_wp2_with fail
 refine bodyPost_ret (results_none rfl _ _ _) rfl ?_
 exact ⟨rfl, HF.out⟩
theorem wlist_trd (w : World) (g : Nat) (v : Value) (l : List UInt8) (lg wb : Bool) (gw : Nat) (vl : Value) (L : List TrT) (hp : PW tw [.bool wb] w g v l lg) (hgw : HT w gw tb [.pointer (some ⟨g, 0, none⟩)]) (hgn : gw ≠ g ∧ v.ownBlock ≠ some gw) (hx : ∀ w', Kept (fun k => k = g ∨ v.ownBlock = some k) w w' → Rs TrT.vs 7 w' vl L) (hr : ∀ x ∈ L, okI x.ints) (hn : L.length ≤ 1024) (hlen : l.length ≤ 1000000000) :
  Calls Tryz.prog 123 #[.pointer (some ⟨g, 0, none⟩), vl, .func (.func 124) #[] #[.pointer (some ⟨gw, 0, none⟩)]] w fun e w' => e = .returned (.tuple #[]) ∧ PWPost tw [.bool wb] w g v (l ++ (encIs [(L.length : Int)] ++ encG TrT.bytes L)) lg w' := by
 obtain ⟨al, cl, rfl, hcl, hml⟩ := (hx w (Kept.refl _ _)).shape
 obtain ⟨n, hN⟩ : ∃ n, n = L.length := ⟨_, rfl⟩
 have hbx : Below w.heap.size w (w.alloc (.cells #[(n : Int)] 3)) := Bn
 have his : Is (w.alloc (.cells #[(n : Int)] 3)) (.slice (some ⟨w.heap.size, 0, none⟩) 1 1) [(n : Int)] := Is.block (l := [(n : Int)]) (heap_new rfl) (Nat.le_refl _) (by simp [maxLen])
 have wi := WInt_any (w.alloc (.cells #[(n : Int)] 3)) g v l lg _ _ (hp.below hbx) his (fun w2 hk => his.kept1 hk (fun _ k hi e => by
  obtain ⟨ad, n, c, hv, rfl⟩ := hi
  injection hv with h5
  injection h5 with h5
  subst h5
  rcases e with e | e
  ·
   have := hp.lt
   simp only at e
   omega
  ·
   have := (hp.row _ e).2
   simp only at this
   omega)) (by intro m hm; rw [List.mem_singleton] at hm; omega) (by simp; omega)
 have HP := Lh hp
 have HX := Lh hx
 have HR := Lh hr
 have HBX := Lh hbx
 have HGW := Lh (⟨hgw, hgn⟩ : _ ∧ _)
 have HN : Hid (n = L.length ∧ n ≤ 1024) := ⟨hN, by omega⟩
 have HLEN := Lh hlen
 have hn1 : (n : Int) ≤ 1024 := by omega
 rw [← hN] at hcl ⊢
 clear hbx his hp hx hr hlen hN hn hgw hgn
 go_in
 go_wp2_with fail
 refine wi.mono ?_
 clear wi
 rintro e w1 ⟨rfl, hp1⟩
 have HP1 := Lh (PWPost.pre HBX.out hp1)
 clear hp1
 go_wp2_with fail
 go_loopw [23] (fun v23 wr => ∃ k : Nat, k ≤ n ∧ v23 = .int .i64 k ∧ PWPost tw [.bool wb] w g v (l ++ (encIs [(n : Int)] ++ encG TrT.bytes (L.take k))) lg wr) (fun i _ => n - (intOf i).toNat)
 case atStart => exact ⟨0, Nat.zero_le _, rfl, by simpa [encG] using HP1.out⟩
 case round =>
  obtain ⟨k, hk, rfl, hpk⟩ := hrel
  have HPK := Lh hpk
  clear hpk
  by_cases hlt : k < n
  ·
   obtain ⟨v1, hp1, hk1, ho1⟩ := HPK.out
   have hrows := HX.out wr hk1
   have hkL : k < L.length := by rw [← HN.out.1]; exact hlt
   have hrows' : Rs TrT.vs 7 wr (.slice al n cl) L := by rw [HN.out.1]; exact hrows
   obtain ⟨b, off, rfl, hbw, hat⟩ := hrows'.at (by omega) (by decide)
   have hran : wr.rangeAt b (off + k * 7) [L[k].no, L[k].buyer, L[k].seller, L[k].inst, L[k].qty, L[k].price, .bool L[k].off] := fun j u hu => hat k hkL j u hu
   have hal : Below wr.heap.size wr ((wr.alloc (.cells #[(0:Int), (0:Int), (0:Int), (0:Int), (0:Int), (0:Int), .bool false] 93)).setRow wr.heap.size #[L[k].no, L[k].buyer, L[k].seller, L[k].inst, L[k].qty, L[k].price, .bool L[k].off]) := (Bn).trans (setRow_below (Nat.le_refl _) _)
   have HNEW : Hid ((wr.alloc (.cells #[(0:Int), (0:Int), (0:Int), (0:Int), (0:Int), (0:Int), .bool false] 93)).heap[wr.heap.size]? = some (.cells #[(0:Int), (0:Int), (0:Int), (0:Int), (0:Int), (0:Int), .bool false] 93 (0, 0))) := heap_alloc_new _ _
   have HNEW2 : Hid (((wr.alloc (.cells #[(0:Int), (0:Int), (0:Int), (0:Int), (0:Int), (0:Int), .bool false] 93)).setRow wr.heap.size #[L[k].no, L[k].buyer, L[k].seller, L[k].inst, L[k].qty, L[k].price, .bool L[k].off]).heap[wr.heap.size]? = some (.cells #[L[k].no, L[k].buyer, L[k].seller, L[k].inst, L[k].qty, L[k].price, .bool L[k].off] 93 (0, 0))) := setRow_heap _ _ _ _ _ _ (heap_alloc_new _ _)
   have HSZ : Hid ((Tryz.prog.info? 93).map (·.size) = some (#[L[k].no, L[k].buyer, L[k].seller, L[k].inst, L[k].qty, L[k].price, .bool L[k].off] : Array Value).size) := by show _ = _; rw [trd_sz]; rfl
   have HONE : Hid ((#[L[k].no, L[k].buyer, L[k].seller, L[k].inst, L[k].qty, L[k].price, .bool L[k].off] : Array Value).all (·.oneCell') = true) := by show _ = true; simp [Value.oneCell']
   have hgw1 := (HGW.out.1.keptH hk1 (fun e => e.elim (fun e => HGW.out.2.1 e) (fun e => HGW.out.2.2 e)))
   have hgn1 : gw ≠ g ∧ v1.ownBlock ≠ some gw := ⟨HGW.out.2.1, fun e => by rcases ho1 gw e with h | h; exact HGW.out.2.2 h; have := HGW.out.1.lt; omega⟩
   have wd := wtrd_any (rs := [.bool wb]) (tw := tw) ((wr.alloc (.cells #[(0:Int), (0:Int), (0:Int), (0:Int), (0:Int), (0:Int), .bool false] 93)).setRow wr.heap.size #[L[k].no, L[k].buyer, L[k].seller, L[k].inst, L[k].qty, L[k].price, .bool L[k].off]) g v1 _ lg gw L[k] (hp1.below hal) (hgw1.below hal) hgn1 (HR.out L[k] (List.getElem_mem hkL)) (by
    have h1 := HLEN.out
    have h2 := encIs_length [(n : Int)] (by intro m hm; rw [List.mem_singleton] at hm; omega)
    have h3 := encG_length TrT.bytes 200 (L.take k) (fun x hx => TrT.blen x (HR.out x (List.mem_of_mem_take hx)))
    rw [List.length_take] at h3
    simp only [List.length_append, List.length_singleton] at h2 ⊢
    have := HN.out.2
    have : min k L.length ≤ 1024 := by omega
    omega)
   have HRAN := Lh hran
   have HAL := Lh hal
   have HPP := Lh (⟨hp1, hk1, ho1⟩ : _ ∧ _ ∧ _)
   have hk0 : (0 : Int) ≤ k := by omega
   have hk1' : (k : Int) < n := by omega
   have hcap : k < cl := by omega
   clear hrows hrows' hran hal hat hp1 hk1 ho1 hgw1 hgn1
   go_wp2_with (first
    | (refine wpList_load_mid rfl 93 (.tmp 25) rfl b (off + k * 7) rfl [L[k].no, L[k].buyer, L[k].seller, L[k].inst, L[k].qty, L[k].price, .bool L[k].off] _ HRAN.out Tryz.underlying93 rfl HSZ.out ?_)
    | (refine wpList_store_row rfl 93 (.tmp 7) (.tmp 26) rfl wr.heap.size #[L[k].no, L[k].buyer, L[k].seller, L[k].inst, L[k].qty, L[k].price, .bool L[k].off] rfl rfl 93 #[(0:Int), (0:Int), (0:Int), (0:Int), (0:Int), (0:Int), .bool false] HNEW.out HSZ.out rfl HONE.out ?_)
    | (refine wpList_load_row rfl 93 (.tmp 7) rfl wr.heap.size rfl 93 #[L[k].no, L[k].buyer, L[k].seller, L[k].inst, L[k].qty, L[k].price, .bool L[k].off] (0, 0) _ HNEW2.out Tryz.underlying93 rfl HSZ.out ?_)
    | fail)
   refine wd.mono ?_
   clear wd
   rintro e w5 ⟨rfl, hp5⟩
   have HP5 := Lh (PWPost.next HPP.out (PWPost.pre HAL.out hp5))
   clear hp5
   go_wp2_with fail
   exact ⟨⟨k + 1, by omega, by push_cast; rfl, by
    have h := HP5.out
    rw [List.append_assoc, List.append_assoc] at h
    rw [encG_snoc _ hkL]
    exact h⟩, by simp [intOf]; omega⟩
  ·
   obtain rfl : k = n := by omega
   go_wp2_with fail
   go_end0
   exact ⟨rfl, by have h := HPK.out; rwa [List.take_of_length_le (by rw [← HN.out.1]; exact Nat.le_refl _)] at h⟩
theorem wlistA_trd (w : World) (g : Nat) (v : Value) (l : List UInt8) (lg wb : Bool) (gw : Nat) (vl : Value) (L : List TrT) (hp : PW tw [.bool wb] w g v l lg) (hgw : HT w gw tb [.pointer (some ⟨g, 0, none⟩)]) (hgn : gw ≠ g ∧ v.ownBlock ≠ some gw) (hx : ∀ w', Kept (fun k => k = g ∨ v.ownBlock = some k) w w' → Rs TrT.vs 7 w' vl L) (hr : ∀ x ∈ L, okI x.ints) (hlen : l.length ≤ 1000000000) :
  Calls Tryz.prog 123 #[.pointer (some ⟨g, 0, none⟩), vl, .func (.func 124) #[] #[.pointer (some ⟨gw, 0, none⟩)]] w fun e w' => e = .returned (.tuple #[]) ∧ PWPost tw [.bool (wb || decide (1024 < L.length))] w g v (l ++ lwG TrT.bytes L) lg w' := by
 by_cases h : 1024 < L.length
 ·
  rw [decide_eq_true h, Bool.or_true, lwG, if_pos h, List.append_nil]
  exact wlist_trd_no w g v l lg wb vl L hp (hx w (Kept.refl _ _)) h _
 ·
  rw [decide_eq_false h, Bool.or_false, lwG, if_neg h]
  exact wlist_trd w g v l lg wb gw vl L hp hgw hgn hx hr (by omega) hlen
theorem wlist_pos_no (w : World) (g : Nat) (v : Value) (l : List UInt8) (lg wb : Bool) (vl : Value) (L : List PoT) (hp : PW tw [.bool wb] w g v l lg) (hx : Rs PoT.vs 4 w vl L) (hn : 1024 < L.length) (vf : Value) :
  Calls Tryz.prog 126 #[.pointer (some ⟨g, 0, none⟩), vl, vf] w fun e w' => e = .returned (.tuple #[]) ∧ PWPost tw [.bool true] w g v l lg w' := by
 obtain ⟨al, cl, rfl, hcl, hml⟩ := hx.shape
 have hc : HT w g tw [v, .bool lg, .bool wb] := hp.1
 have hcell := hc.cell (j := 2) rfl
 have hfr := hc.frozen 2
 have hput := hc.put 2 (.bool true)
 have hk : Kept (fun k => k = g ∨ v.ownBlock = some k) w (w.setCell ⟨g, 2, none⟩ (.bool true)) := (Kept.refl _ w).setCell _ _ (.inl rfl)
 have ho : OwnB 5 (w.setCell ⟨g, 2, none⟩ (.bool true)) (g + 1) v l := OwnB.keptS hp.2 (S := fun k => k = g) ((Kept.refl (fun k => k = g) w).setCell _ _ rfl) (fun k hk (e : k = g) => by have := (hp.row k hk).1; omega)
 have hn1 : (1024 : Int) < (L.length : Int) := by omega
 have HF := Lh (⟨v, ⟨hput, ho⟩, hk, fun k h => .inl h⟩ : PWPost tw [.bool true] w g v l lg (w.setCell ⟨g, 2, none⟩ (.bool true)))
 clear hput hk ho hc hp hx
 go_in
 go_wp2_with fail
 refine bodyPost_ret (results_none rfl _ _ _) rfl ?_
 exact ⟨rfl, HF.out⟩
theorem wlist_pos (w : World) (g : Nat) (v : Value) (l : List UInt8) (lg wb : Bool) (gw : Nat) (vl : Value) (L : List PoT) (hp : PW tw [.bool wb] w g v l lg) (hgw : HT w gw tb [.pointer (some ⟨g, 0, none⟩)]) (hgn : gw ≠ g ∧ v.ownBlock ≠ some gw) (hx : ∀ w', Kept (fun k => k = g ∨ v.ownBlock = some k) w w' → Rs PoT.vs 4 w' vl L) (hr : ∀ x ∈ L, okI x.ints) (hn : L.length ≤ 1024) (hlen : l.length ≤ 1000000000) :
  Calls Tryz.prog 126 #[.pointer (some ⟨g, 0, none⟩), vl, .func (.func 127) #[] #[.pointer (some ⟨gw, 0, none⟩)]] w fun e w' => e = .returned (.tuple #[]) ∧ PWPost tw [.bool wb] w g v (l ++ (encIs [(L.length : Int)] ++ encG PoT.bytes L)) lg w' := by
 obtain ⟨al, cl, rfl, hcl, hml⟩ := (hx w (Kept.refl _ _)).shape
 obtain ⟨n, hN⟩ : ∃ n, n = L.length := ⟨_, rfl⟩
 have hbx : Below w.heap.size w (w.alloc (.cells #[(n : Int)] 3)) := Bn
 have his : Is (w.alloc (.cells #[(n : Int)] 3)) (.slice (some ⟨w.heap.size, 0, none⟩) 1 1) [(n : Int)] := Is.block (l := [(n : Int)]) (heap_new rfl) (Nat.le_refl _) (by simp [maxLen])
 have wi := WInt_any (w.alloc (.cells #[(n : Int)] 3)) g v l lg _ _ (hp.below hbx) his (fun w2 hk => his.kept1 hk (fun _ k hi e => by
  obtain ⟨ad, n, c, hv, rfl⟩ := hi
  injection hv with h5
  injection h5 with h5
  subst h5
  rcases e with e | e
  ·
   have := hp.lt
   simp only at e
   omega
  ·
   have := (hp.row _ e).2
   simp only at this
   omega)) (by intro m hm; rw [List.mem_singleton] at hm; omega) (by simp; omega)
 have HP := Lh hp
 have HX := Lh hx
 have HR := Lh hr
 have HBX := Lh hbx
 have HGW := Lh (⟨hgw, hgn⟩ : _ ∧ _)
 have HN : Hid (n = L.length ∧ n ≤ 1024) := ⟨hN, by omega⟩
 have HLEN := Lh hlen
 have hn1 : (n : Int) ≤ 1024 := by omega
 rw [← hN] at hcl ⊢
 clear hbx his hp hx hr hlen hN hn hgw hgn
 go_in
 go_wp2_with fail
 refine wi.mono ?_
 clear wi
 rintro e w1 ⟨rfl, hp1⟩
 have HP1 := Lh (PWPost.pre HBX.out hp1)
 clear hp1
 go_wp2_with fail
 go_loopw [23] (fun v23 wr => ∃ k : Nat, k ≤ n ∧ v23 = .int .i64 k ∧ PWPost tw [.bool wb] w g v (l ++ (encIs [(n : Int)] ++ encG PoT.bytes (L.take k))) lg wr) (fun i _ => n - (intOf i).toNat)
 case atStart => exact ⟨0, Nat.zero_le _, rfl, by simpa [encG] using HP1.out⟩
 case round =>
  obtain ⟨k, hk, rfl, hpk⟩ := hrel
  have HPK := Lh hpk
  clear hpk
  by_cases hlt : k < n
  ·
   obtain ⟨v1, hp1, hk1, ho1⟩ := HPK.out
   have hrows := HX.out wr hk1
   have hkL : k < L.length := by rw [← HN.out.1]; exact hlt
   have hrows' : Rs PoT.vs 4 wr (.slice al n cl) L := by rw [HN.out.1]; exact hrows
   obtain ⟨b, off, rfl, hbw, hat⟩ := hrows'.at (by omega) (by decide)
   have hran : wr.rangeAt b (off + k * 4) [L[k].who, L[k].inst, L[k].qty, L[k].cost] := fun j u hu => hat k hkL j u hu
   have hal : Below wr.heap.size wr ((wr.alloc (.cells #[(0:Int), (0:Int), (0:Int), (0:Int)] 98)).setRow wr.heap.size #[L[k].who, L[k].inst, L[k].qty, L[k].cost]) := (Bn).trans (setRow_below (Nat.le_refl _) _)
   have HNEW : Hid ((wr.alloc (.cells #[(0:Int), (0:Int), (0:Int), (0:Int)] 98)).heap[wr.heap.size]? = some (.cells #[(0:Int), (0:Int), (0:Int), (0:Int)] 98 (0, 0))) := heap_alloc_new _ _
   have HNEW2 : Hid (((wr.alloc (.cells #[(0:Int), (0:Int), (0:Int), (0:Int)] 98)).setRow wr.heap.size #[L[k].who, L[k].inst, L[k].qty, L[k].cost]).heap[wr.heap.size]? = some (.cells #[L[k].who, L[k].inst, L[k].qty, L[k].cost] 98 (0, 0))) := setRow_heap _ _ _ _ _ _ (heap_alloc_new _ _)
   have HSZ : Hid ((Tryz.prog.info? 98).map (·.size) = some (#[L[k].who, L[k].inst, L[k].qty, L[k].cost] : Array Value).size) := by show _ = _; rw [pos_sz]; rfl
   have HONE : Hid ((#[L[k].who, L[k].inst, L[k].qty, L[k].cost] : Array Value).all (·.oneCell') = true) := by show _ = true; simp [Value.oneCell']
   have hgw1 := (HGW.out.1.keptH hk1 (fun e => e.elim (fun e => HGW.out.2.1 e) (fun e => HGW.out.2.2 e)))
   have hgn1 : gw ≠ g ∧ v1.ownBlock ≠ some gw := ⟨HGW.out.2.1, fun e => by rcases ho1 gw e with h | h; exact HGW.out.2.2 h; have := HGW.out.1.lt; omega⟩
   have wd := wpos_any (rs := [.bool wb]) (tw := tw) ((wr.alloc (.cells #[(0:Int), (0:Int), (0:Int), (0:Int)] 98)).setRow wr.heap.size #[L[k].who, L[k].inst, L[k].qty, L[k].cost]) g v1 _ lg gw L[k] (hp1.below hal) (hgw1.below hal) hgn1 (HR.out L[k] (List.getElem_mem hkL)) (by
    have h1 := HLEN.out
    have h2 := encIs_length [(n : Int)] (by intro m hm; rw [List.mem_singleton] at hm; omega)
    have h3 := encG_length PoT.bytes 200 (L.take k) (fun x hx => PoT.blen x (HR.out x (List.mem_of_mem_take hx)))
    rw [List.length_take] at h3
    simp only [List.length_append, List.length_singleton] at h2 ⊢
    have := HN.out.2
    have : min k L.length ≤ 1024 := by omega
    omega)
   have HRAN := Lh hran
   have HAL := Lh hal
   have HPP := Lh (⟨hp1, hk1, ho1⟩ : _ ∧ _ ∧ _)
   have hk0 : (0 : Int) ≤ k := by omega
   have hk1' : (k : Int) < n := by omega
   have hcap : k < cl := by omega
   clear hrows hrows' hran hal hat hp1 hk1 ho1 hgw1 hgn1
   go_wp2_with (first
    | (refine wpList_load_mid rfl 98 (.tmp 25) rfl b (off + k * 4) rfl [L[k].who, L[k].inst, L[k].qty, L[k].cost] _ HRAN.out Tryz.underlying98 rfl HSZ.out ?_)
    | (refine wpList_store_row rfl 98 (.tmp 7) (.tmp 26) rfl wr.heap.size #[L[k].who, L[k].inst, L[k].qty, L[k].cost] rfl rfl 98 #[(0:Int), (0:Int), (0:Int), (0:Int)] HNEW.out HSZ.out rfl HONE.out ?_)
    | (refine wpList_load_row rfl 98 (.tmp 7) rfl wr.heap.size rfl 98 #[L[k].who, L[k].inst, L[k].qty, L[k].cost] (0, 0) _ HNEW2.out Tryz.underlying98 rfl HSZ.out ?_)
    | fail)
   refine wd.mono ?_
   clear wd
   rintro e w5 ⟨rfl, hp5⟩
   have HP5 := Lh (PWPost.next HPP.out (PWPost.pre HAL.out hp5))
   clear hp5
   go_wp2_with fail
   exact ⟨⟨k + 1, by omega, by push_cast; rfl, by
    have h := HP5.out
    rw [List.append_assoc, List.append_assoc] at h
    rw [encG_snoc _ hkL]
    exact h⟩, by simp [intOf]; omega⟩
  ·
   obtain rfl : k = n := by omega
   go_wp2_with fail
   go_end0
   exact ⟨rfl, by have h := HPK.out; rwa [List.take_of_length_le (by rw [← HN.out.1]; exact Nat.le_refl _)] at h⟩
theorem wlistA_pos (w : World) (g : Nat) (v : Value) (l : List UInt8) (lg wb : Bool) (gw : Nat) (vl : Value) (L : List PoT) (hp : PW tw [.bool wb] w g v l lg) (hgw : HT w gw tb [.pointer (some ⟨g, 0, none⟩)]) (hgn : gw ≠ g ∧ v.ownBlock ≠ some gw) (hx : ∀ w', Kept (fun k => k = g ∨ v.ownBlock = some k) w w' → Rs PoT.vs 4 w' vl L) (hr : ∀ x ∈ L, okI x.ints) (hlen : l.length ≤ 1000000000) :
  Calls Tryz.prog 126 #[.pointer (some ⟨g, 0, none⟩), vl, .func (.func 127) #[] #[.pointer (some ⟨gw, 0, none⟩)]] w fun e w' => e = .returned (.tuple #[]) ∧ PWPost tw [.bool (wb || decide (1024 < L.length))] w g v (l ++ lwG PoT.bytes L) lg w' := by
 by_cases h : 1024 < L.length
 ·
  rw [decide_eq_true h, Bool.or_true, lwG, if_pos h, List.append_nil]
  exact wlist_pos_no w g v l lg wb vl L hp (hx w (Kept.refl _ _)) h _
 ·
  rw [decide_eq_false h, Bool.or_false, lwG, if_neg h]
  exact wlist_pos w g v l lg wb gw vl L hp hgw hgn hx hr (by omega) hlen
theorem wlist_bal_no (w : World) (g : Nat) (v : Value) (l : List UInt8) (lg wb : Bool) (vl : Value) (L : List BaT) (hp : PW tw [.bool wb] w g v l lg) (hx : Rs BaT.vs 4 w vl L) (hn : 1024 < L.length) (vf : Value) :
  Calls Tryz.prog 58 #[.pointer (some ⟨g, 0, none⟩), vl, vf] w fun e w' => e = .returned (.tuple #[]) ∧ PWPost tw [.bool true] w g v l lg w' := by
 obtain ⟨al, cl, rfl, hcl, hml⟩ := hx.shape
 have hc : HT w g tw [v, .bool lg, .bool wb] := hp.1
 have hcell := hc.cell (j := 2) rfl
 have hfr := hc.frozen 2
 have hput := hc.put 2 (.bool true)
 have hk : Kept (fun k => k = g ∨ v.ownBlock = some k) w (w.setCell ⟨g, 2, none⟩ (.bool true)) := (Kept.refl _ w).setCell _ _ (.inl rfl)
 have ho : OwnB 5 (w.setCell ⟨g, 2, none⟩ (.bool true)) (g + 1) v l := OwnB.keptS hp.2 (S := fun k => k = g) ((Kept.refl (fun k => k = g) w).setCell _ _ rfl) (fun k hk (e : k = g) => by have := (hp.row k hk).1; omega)
 have hn1 : (1024 : Int) < (L.length : Int) := by omega
 have HF := Lh (⟨v, ⟨hput, ho⟩, hk, fun k h => .inl h⟩ : PWPost tw [.bool true] w g v l lg (w.setCell ⟨g, 2, none⟩ (.bool true)))
 clear hput hk ho hc hp hx
 go_in
 go_wp2_with fail
 refine bodyPost_ret (results_none rfl _ _ _) rfl ?_
 exact ⟨rfl, HF.out⟩
theorem wlist_bal (w : World) (g : Nat) (v : Value) (l : List UInt8) (lg wb : Bool) (gw : Nat) (vl : Value) (L : List BaT) (hp : PW tw [.bool wb] w g v l lg) (hgw : HT w gw tb [.pointer (some ⟨g, 0, none⟩)]) (hgn : gw ≠ g ∧ v.ownBlock ≠ some gw) (hx : ∀ w', Kept (fun k => k = g ∨ v.ownBlock = some k) w w' → Rs BaT.vs 4 w' vl L) (hr : ∀ x ∈ L, okI x.ints) (hn : L.length ≤ 1024) (hlen : l.length ≤ 1000000000) :
  Calls Tryz.prog 58 #[.pointer (some ⟨g, 0, none⟩), vl, .func (.func 59) #[] #[.pointer (some ⟨gw, 0, none⟩)]] w fun e w' => e = .returned (.tuple #[]) ∧ PWPost tw [.bool wb] w g v (l ++ (encIs [(L.length : Int)] ++ encG BaT.bytes L)) lg w' := by
 obtain ⟨al, cl, rfl, hcl, hml⟩ := (hx w (Kept.refl _ _)).shape
 obtain ⟨n, hN⟩ : ∃ n, n = L.length := ⟨_, rfl⟩
 have hbx : Below w.heap.size w (w.alloc (.cells #[(n : Int)] 3)) := Bn
 have his : Is (w.alloc (.cells #[(n : Int)] 3)) (.slice (some ⟨w.heap.size, 0, none⟩) 1 1) [(n : Int)] := Is.block (l := [(n : Int)]) (heap_new rfl) (Nat.le_refl _) (by simp [maxLen])
 have wi := WInt_any (w.alloc (.cells #[(n : Int)] 3)) g v l lg _ _ (hp.below hbx) his (fun w2 hk => his.kept1 hk (fun _ k hi e => by
  obtain ⟨ad, n, c, hv, rfl⟩ := hi
  injection hv with h5
  injection h5 with h5
  subst h5
  rcases e with e | e
  ·
   have := hp.lt
   simp only at e
   omega
  ·
   have := (hp.row _ e).2
   simp only at this
   omega)) (by intro m hm; rw [List.mem_singleton] at hm; omega) (by simp; omega)
 have HP := Lh hp
 have HX := Lh hx
 have HR := Lh hr
 have HBX := Lh hbx
 have HGW := Lh (⟨hgw, hgn⟩ : _ ∧ _)
 have HN : Hid (n = L.length ∧ n ≤ 1024) := ⟨hN, by omega⟩
 have HLEN := Lh hlen
 have hn1 : (n : Int) ≤ 1024 := by omega
 rw [← hN] at hcl ⊢
 clear hbx his hp hx hr hlen hN hn hgw hgn
 go_in
 go_wp2_with fail
 refine wi.mono ?_
 clear wi
 rintro e w1 ⟨rfl, hp1⟩
 have HP1 := Lh (PWPost.pre HBX.out hp1)
 clear hp1
 go_wp2_with fail
 go_loopw [23] (fun v23 wr => ∃ k : Nat, k ≤ n ∧ v23 = .int .i64 k ∧ PWPost tw [.bool wb] w g v (l ++ (encIs [(n : Int)] ++ encG BaT.bytes (L.take k))) lg wr) (fun i _ => n - (intOf i).toNat)
 case atStart => exact ⟨0, Nat.zero_le _, rfl, by simpa [encG] using HP1.out⟩
 case round =>
  obtain ⟨k, hk, rfl, hpk⟩ := hrel
  have HPK := Lh hpk
  clear hpk
  by_cases hlt : k < n
  ·
   obtain ⟨v1, hp1, hk1, ho1⟩ := HPK.out
   have hrows := HX.out wr hk1
   have hkL : k < L.length := by rw [← HN.out.1]; exact hlt
   have hrows' : Rs BaT.vs 4 wr (.slice al n cl) L := by rw [HN.out.1]; exact hrows
   obtain ⟨b, off, rfl, hbw, hat⟩ := hrows'.at (by omega) (by decide)
   have hran : wr.rangeAt b (off + k * 4) [L[k].kind, L[k].who, L[k].cur, L[k].sum] := fun j u hu => hat k hkL j u hu
   have hal : Below wr.heap.size wr ((wr.alloc (.cells #[(0:Int), (0:Int), (0:Int), (0:Int)] 102)).setRow wr.heap.size #[L[k].kind, L[k].who, L[k].cur, L[k].sum]) := (Bn).trans (setRow_below (Nat.le_refl _) _)
   have HNEW : Hid ((wr.alloc (.cells #[(0:Int), (0:Int), (0:Int), (0:Int)] 102)).heap[wr.heap.size]? = some (.cells #[(0:Int), (0:Int), (0:Int), (0:Int)] 102 (0, 0))) := heap_alloc_new _ _
   have HNEW2 : Hid (((wr.alloc (.cells #[(0:Int), (0:Int), (0:Int), (0:Int)] 102)).setRow wr.heap.size #[L[k].kind, L[k].who, L[k].cur, L[k].sum]).heap[wr.heap.size]? = some (.cells #[L[k].kind, L[k].who, L[k].cur, L[k].sum] 102 (0, 0))) := setRow_heap _ _ _ _ _ _ (heap_alloc_new _ _)
   have HSZ : Hid ((Tryz.prog.info? 102).map (·.size) = some (#[L[k].kind, L[k].who, L[k].cur, L[k].sum] : Array Value).size) := by show _ = _; rw [bal_sz]; rfl
   have HONE : Hid ((#[L[k].kind, L[k].who, L[k].cur, L[k].sum] : Array Value).all (·.oneCell') = true) := by show _ = true; simp [Value.oneCell']
   have hgw1 := (HGW.out.1.keptH hk1 (fun e => e.elim (fun e => HGW.out.2.1 e) (fun e => HGW.out.2.2 e)))
   have hgn1 : gw ≠ g ∧ v1.ownBlock ≠ some gw := ⟨HGW.out.2.1, fun e => by rcases ho1 gw e with h | h; exact HGW.out.2.2 h; have := HGW.out.1.lt; omega⟩
   have wd := wbal_any (rs := [.bool wb]) (tw := tw) ((wr.alloc (.cells #[(0:Int), (0:Int), (0:Int), (0:Int)] 102)).setRow wr.heap.size #[L[k].kind, L[k].who, L[k].cur, L[k].sum]) g v1 _ lg gw L[k] (hp1.below hal) (hgw1.below hal) hgn1 (HR.out L[k] (List.getElem_mem hkL)) (by
    have h1 := HLEN.out
    have h2 := encIs_length [(n : Int)] (by intro m hm; rw [List.mem_singleton] at hm; omega)
    have h3 := encG_length BaT.bytes 200 (L.take k) (fun x hx => BaT.blen x (HR.out x (List.mem_of_mem_take hx)))
    rw [List.length_take] at h3
    simp only [List.length_append, List.length_singleton] at h2 ⊢
    have := HN.out.2
    have : min k L.length ≤ 1024 := by omega
    omega)
   have HRAN := Lh hran
   have HAL := Lh hal
   have HPP := Lh (⟨hp1, hk1, ho1⟩ : _ ∧ _ ∧ _)
   have hk0 : (0 : Int) ≤ k := by omega
   have hk1' : (k : Int) < n := by omega
   have hcap : k < cl := by omega
   clear hrows hrows' hran hal hat hp1 hk1 ho1 hgw1 hgn1
   go_wp2_with (first
    | (refine wpList_load_mid rfl 102 (.tmp 25) rfl b (off + k * 4) rfl [L[k].kind, L[k].who, L[k].cur, L[k].sum] _ HRAN.out Tryz.underlying102 rfl HSZ.out ?_)
    | (refine wpList_store_row rfl 102 (.tmp 7) (.tmp 26) rfl wr.heap.size #[L[k].kind, L[k].who, L[k].cur, L[k].sum] rfl rfl 102 #[(0:Int), (0:Int), (0:Int), (0:Int)] HNEW.out HSZ.out rfl HONE.out ?_)
    | (refine wpList_load_row rfl 102 (.tmp 7) rfl wr.heap.size rfl 102 #[L[k].kind, L[k].who, L[k].cur, L[k].sum] (0, 0) _ HNEW2.out Tryz.underlying102 rfl HSZ.out ?_)
    | fail)
   refine wd.mono ?_
   clear wd
   rintro e w5 ⟨rfl, hp5⟩
   have HP5 := Lh (PWPost.next HPP.out (PWPost.pre HAL.out hp5))
   clear hp5
   go_wp2_with fail
   exact ⟨⟨k + 1, by omega, by push_cast; rfl, by
    have h := HP5.out
    rw [List.append_assoc, List.append_assoc] at h
    rw [encG_snoc _ hkL]
    exact h⟩, by simp [intOf]; omega⟩
  ·
   obtain rfl : k = n := by omega
   go_wp2_with fail
   go_end0
   exact ⟨rfl, by have h := HPK.out; rwa [List.take_of_length_le (by rw [← HN.out.1]; exact Nat.le_refl _)] at h⟩
theorem wlistA_bal (w : World) (g : Nat) (v : Value) (l : List UInt8) (lg wb : Bool) (gw : Nat) (vl : Value) (L : List BaT) (hp : PW tw [.bool wb] w g v l lg) (hgw : HT w gw tb [.pointer (some ⟨g, 0, none⟩)]) (hgn : gw ≠ g ∧ v.ownBlock ≠ some gw) (hx : ∀ w', Kept (fun k => k = g ∨ v.ownBlock = some k) w w' → Rs BaT.vs 4 w' vl L) (hr : ∀ x ∈ L, okI x.ints) (hlen : l.length ≤ 1000000000) :
  Calls Tryz.prog 58 #[.pointer (some ⟨g, 0, none⟩), vl, .func (.func 59) #[] #[.pointer (some ⟨gw, 0, none⟩)]] w fun e w' => e = .returned (.tuple #[]) ∧ PWPost tw [.bool (wb || decide (1024 < L.length))] w g v (l ++ lwG BaT.bytes L) lg w' := by
 by_cases h : 1024 < L.length
 ·
  rw [decide_eq_true h, Bool.or_true, lwG, if_pos h, List.append_nil]
  exact wlist_bal_no w g v l lg wb vl L hp (hx w (Kept.refl _ _)) h _
 ·
  rw [decide_eq_false h, Bool.or_false, lwG, if_neg h]
  exact wlist_bal w g v l lg wb gw vl L hp hgw hgn hx hr (by omega) hlen
theorem wlist_ple_no (w : World) (g : Nat) (v : Value) (l : List UInt8) (lg wb : Bool) (vl : Value) (L : List PlT) (hp : PW tw [.bool wb] w g v l lg) (hx : Rs PlT.vs 3 w vl L) (hn : 1024 < L.length) (vf : Value) :
  Calls Tryz.prog 60 #[.pointer (some ⟨g, 0, none⟩), vl, vf] w fun e w' => e = .returned (.tuple #[]) ∧ PWPost tw [.bool true] w g v l lg w' := by
 obtain ⟨al, cl, rfl, hcl, hml⟩ := hx.shape
 have hc : HT w g tw [v, .bool lg, .bool wb] := hp.1
 have hcell := hc.cell (j := 2) rfl
 have hfr := hc.frozen 2
 have hput := hc.put 2 (.bool true)
 have hk : Kept (fun k => k = g ∨ v.ownBlock = some k) w (w.setCell ⟨g, 2, none⟩ (.bool true)) := (Kept.refl _ w).setCell _ _ (.inl rfl)
 have ho : OwnB 5 (w.setCell ⟨g, 2, none⟩ (.bool true)) (g + 1) v l := OwnB.keptS hp.2 (S := fun k => k = g) ((Kept.refl (fun k => k = g) w).setCell _ _ rfl) (fun k hk (e : k = g) => by have := (hp.row k hk).1; omega)
 have hn1 : (1024 : Int) < (L.length : Int) := by omega
 have HF := Lh (⟨v, ⟨hput, ho⟩, hk, fun k h => .inl h⟩ : PWPost tw [.bool true] w g v l lg (w.setCell ⟨g, 2, none⟩ (.bool true)))
 clear hput hk ho hc hp hx
 go_in
 go_wp2_with fail
 refine bodyPost_ret (results_none rfl _ _ _) rfl ?_
 exact ⟨rfl, HF.out⟩
theorem wlist_ple (w : World) (g : Nat) (v : Value) (l : List UInt8) (lg wb : Bool) (gw : Nat) (vl : Value) (L : List PlT) (hp : PW tw [.bool wb] w g v l lg) (hgw : HT w gw tb [.pointer (some ⟨g, 0, none⟩)]) (hgn : gw ≠ g ∧ v.ownBlock ≠ some gw) (hx : ∀ w', Kept (fun k => k = g ∨ v.ownBlock = some k) w w' → Rs PlT.vs 3 w' vl L) (hr : ∀ x ∈ L, okI x.ints) (hn : L.length ≤ 1024) (hlen : l.length ≤ 1000000000) :
  Calls Tryz.prog 60 #[.pointer (some ⟨g, 0, none⟩), vl, .func (.func 61) #[] #[.pointer (some ⟨gw, 0, none⟩)]] w fun e w' => e = .returned (.tuple #[]) ∧ PWPost tw [.bool wb] w g v (l ++ (encIs [(L.length : Int)] ++ encG PlT.bytes L)) lg w' := by
 obtain ⟨al, cl, rfl, hcl, hml⟩ := (hx w (Kept.refl _ _)).shape
 obtain ⟨n, hN⟩ : ∃ n, n = L.length := ⟨_, rfl⟩
 have hbx : Below w.heap.size w (w.alloc (.cells #[(n : Int)] 3)) := Bn
 have his : Is (w.alloc (.cells #[(n : Int)] 3)) (.slice (some ⟨w.heap.size, 0, none⟩) 1 1) [(n : Int)] := Is.block (l := [(n : Int)]) (heap_new rfl) (Nat.le_refl _) (by simp [maxLen])
 have wi := WInt_any (w.alloc (.cells #[(n : Int)] 3)) g v l lg _ _ (hp.below hbx) his (fun w2 hk => his.kept1 hk (fun _ k hi e => by
  obtain ⟨ad, n, c, hv, rfl⟩ := hi
  injection hv with h5
  injection h5 with h5
  subst h5
  rcases e with e | e
  ·
   have := hp.lt
   simp only at e
   omega
  ·
   have := (hp.row _ e).2
   simp only at this
   omega)) (by intro m hm; rw [List.mem_singleton] at hm; omega) (by simp; omega)
 have HP := Lh hp
 have HX := Lh hx
 have HR := Lh hr
 have HBX := Lh hbx
 have HGW := Lh (⟨hgw, hgn⟩ : _ ∧ _)
 have HN : Hid (n = L.length ∧ n ≤ 1024) := ⟨hN, by omega⟩
 have HLEN := Lh hlen
 have hn1 : (n : Int) ≤ 1024 := by omega
 rw [← hN] at hcl ⊢
 clear hbx his hp hx hr hlen hN hn hgw hgn
 go_in
 go_wp2_with fail
 refine wi.mono ?_
 clear wi
 rintro e w1 ⟨rfl, hp1⟩
 have HP1 := Lh (PWPost.pre HBX.out hp1)
 clear hp1
 go_wp2_with fail
 go_loopw [23] (fun v23 wr => ∃ k : Nat, k ≤ n ∧ v23 = .int .i64 k ∧ PWPost tw [.bool wb] w g v (l ++ (encIs [(n : Int)] ++ encG PlT.bytes (L.take k))) lg wr) (fun i _ => n - (intOf i).toNat)
 case atStart => exact ⟨0, Nat.zero_le _, rfl, by simpa [encG] using HP1.out⟩
 case round =>
  obtain ⟨k, hk, rfl, hpk⟩ := hrel
  have HPK := Lh hpk
  clear hpk
  by_cases hlt : k < n
  ·
   obtain ⟨v1, hp1, hk1, ho1⟩ := HPK.out
   have hrows := HX.out wr hk1
   have hkL : k < L.length := by rw [← HN.out.1]; exact hlt
   have hrows' : Rs PlT.vs 3 wr (.slice al n cl) L := by rw [HN.out.1]; exact hrows
   obtain ⟨b, off, rfl, hbw, hat⟩ := hrows'.at (by omega) (by decide)
   have hran : wr.rangeAt b (off + k * 3) [L[k].who, L[k].asset, L[k].units] := fun j u hu => hat k hkL j u hu
   have hal : Below wr.heap.size wr ((wr.alloc (.cells #[(0:Int), (0:Int), (0:Int)] 104)).setRow wr.heap.size #[L[k].who, L[k].asset, L[k].units]) := (Bn).trans (setRow_below (Nat.le_refl _) _)
   have HNEW : Hid ((wr.alloc (.cells #[(0:Int), (0:Int), (0:Int)] 104)).heap[wr.heap.size]? = some (.cells #[(0:Int), (0:Int), (0:Int)] 104 (0, 0))) := heap_alloc_new _ _
   have HNEW2 : Hid (((wr.alloc (.cells #[(0:Int), (0:Int), (0:Int)] 104)).setRow wr.heap.size #[L[k].who, L[k].asset, L[k].units]).heap[wr.heap.size]? = some (.cells #[L[k].who, L[k].asset, L[k].units] 104 (0, 0))) := setRow_heap _ _ _ _ _ _ (heap_alloc_new _ _)
   have HSZ : Hid ((Tryz.prog.info? 104).map (·.size) = some (#[L[k].who, L[k].asset, L[k].units] : Array Value).size) := by show _ = _; rw [ple_sz]; rfl
   have HONE : Hid ((#[L[k].who, L[k].asset, L[k].units] : Array Value).all (·.oneCell') = true) := by show _ = true; simp [Value.oneCell']
   have hgw1 := (HGW.out.1.keptH hk1 (fun e => e.elim (fun e => HGW.out.2.1 e) (fun e => HGW.out.2.2 e)))
   have hgn1 : gw ≠ g ∧ v1.ownBlock ≠ some gw := ⟨HGW.out.2.1, fun e => by rcases ho1 gw e with h | h; exact HGW.out.2.2 h; have := HGW.out.1.lt; omega⟩
   have wd := wple_any (rs := [.bool wb]) (tw := tw) ((wr.alloc (.cells #[(0:Int), (0:Int), (0:Int)] 104)).setRow wr.heap.size #[L[k].who, L[k].asset, L[k].units]) g v1 _ lg gw L[k] (hp1.below hal) (hgw1.below hal) hgn1 (HR.out L[k] (List.getElem_mem hkL)) (by
    have h1 := HLEN.out
    have h2 := encIs_length [(n : Int)] (by intro m hm; rw [List.mem_singleton] at hm; omega)
    have h3 := encG_length PlT.bytes 200 (L.take k) (fun x hx => PlT.blen x (HR.out x (List.mem_of_mem_take hx)))
    rw [List.length_take] at h3
    simp only [List.length_append, List.length_singleton] at h2 ⊢
    have := HN.out.2
    have : min k L.length ≤ 1024 := by omega
    omega)
   have HRAN := Lh hran
   have HAL := Lh hal
   have HPP := Lh (⟨hp1, hk1, ho1⟩ : _ ∧ _ ∧ _)
   have hk0 : (0 : Int) ≤ k := by omega
   have hk1' : (k : Int) < n := by omega
   have hcap : k < cl := by omega
   clear hrows hrows' hran hal hat hp1 hk1 ho1 hgw1 hgn1
   go_wp2_with (first
    | (refine wpList_load_mid rfl 104 (.tmp 25) rfl b (off + k * 3) rfl [L[k].who, L[k].asset, L[k].units] _ HRAN.out Tryz.underlying104 rfl HSZ.out ?_)
    | (refine wpList_store_row rfl 104 (.tmp 7) (.tmp 26) rfl wr.heap.size #[L[k].who, L[k].asset, L[k].units] rfl rfl 104 #[(0:Int), (0:Int), (0:Int)] HNEW.out HSZ.out rfl HONE.out ?_)
    | (refine wpList_load_row rfl 104 (.tmp 7) rfl wr.heap.size rfl 104 #[L[k].who, L[k].asset, L[k].units] (0, 0) _ HNEW2.out Tryz.underlying104 rfl HSZ.out ?_)
    | fail)
   refine wd.mono ?_
   clear wd
   rintro e w5 ⟨rfl, hp5⟩
   have HP5 := Lh (PWPost.next HPP.out (PWPost.pre HAL.out hp5))
   clear hp5
   go_wp2_with fail
   exact ⟨⟨k + 1, by omega, by push_cast; rfl, by
    have h := HP5.out
    rw [List.append_assoc, List.append_assoc] at h
    rw [encG_snoc _ hkL]
    exact h⟩, by simp [intOf]; omega⟩
  ·
   obtain rfl : k = n := by omega
   go_wp2_with fail
   go_end0
   exact ⟨rfl, by have h := HPK.out; rwa [List.take_of_length_le (by rw [← HN.out.1]; exact Nat.le_refl _)] at h⟩
theorem wlistA_ple (w : World) (g : Nat) (v : Value) (l : List UInt8) (lg wb : Bool) (gw : Nat) (vl : Value) (L : List PlT) (hp : PW tw [.bool wb] w g v l lg) (hgw : HT w gw tb [.pointer (some ⟨g, 0, none⟩)]) (hgn : gw ≠ g ∧ v.ownBlock ≠ some gw) (hx : ∀ w', Kept (fun k => k = g ∨ v.ownBlock = some k) w w' → Rs PlT.vs 3 w' vl L) (hr : ∀ x ∈ L, okI x.ints) (hlen : l.length ≤ 1000000000) :
  Calls Tryz.prog 60 #[.pointer (some ⟨g, 0, none⟩), vl, .func (.func 61) #[] #[.pointer (some ⟨gw, 0, none⟩)]] w fun e w' => e = .returned (.tuple #[]) ∧ PWPost tw [.bool (wb || decide (1024 < L.length))] w g v (l ++ lwG PlT.bytes L) lg w' := by
 by_cases h : 1024 < L.length
 ·
  rw [decide_eq_true h, Bool.or_true, lwG, if_pos h, List.append_nil]
  exact wlist_ple_no w g v l lg wb vl L hp (hx w (Kept.refl _ _)) h _
 ·
  rw [decide_eq_false h, Bool.or_false, lwG, if_neg h]
  exact wlist_ple w g v l lg wb gw vl L hp hgw hgn hx hr (by omega) hlen
theorem wlist_cal_no (w : World) (g : Nat) (v : Value) (l : List UInt8) (lg wb : Bool) (vl : Value) (L : List CaT) (hp : PW tw [.bool wb] w g v l lg) (hx : Rs CaT.vs 4 w vl L) (hn : 1024 < L.length) (vf : Value) :
  Calls Tryz.prog 62 #[.pointer (some ⟨g, 0, none⟩), vl, vf] w fun e w' => e = .returned (.tuple #[]) ∧ PWPost tw [.bool true] w g v l lg w' := by
 obtain ⟨al, cl, rfl, hcl, hml⟩ := hx.shape
 have hc : HT w g tw [v, .bool lg, .bool wb] := hp.1
 have hcell := hc.cell (j := 2) rfl
 have hfr := hc.frozen 2
 have hput := hc.put 2 (.bool true)
 have hk : Kept (fun k => k = g ∨ v.ownBlock = some k) w (w.setCell ⟨g, 2, none⟩ (.bool true)) := (Kept.refl _ w).setCell _ _ (.inl rfl)
 have ho : OwnB 5 (w.setCell ⟨g, 2, none⟩ (.bool true)) (g + 1) v l := OwnB.keptS hp.2 (S := fun k => k = g) ((Kept.refl (fun k => k = g) w).setCell _ _ rfl) (fun k hk (e : k = g) => by have := (hp.row k hk).1; omega)
 have hn1 : (1024 : Int) < (L.length : Int) := by omega
 have HF := Lh (⟨v, ⟨hput, ho⟩, hk, fun k h => .inl h⟩ : PWPost tw [.bool true] w g v l lg (w.setCell ⟨g, 2, none⟩ (.bool true)))
 clear hput hk ho hc hp hx
 go_in
 go_wp2_with fail
 refine bodyPost_ret (results_none rfl _ _ _) rfl ?_
 exact ⟨rfl, HF.out⟩
theorem wlist_cal (w : World) (g : Nat) (v : Value) (l : List UInt8) (lg wb : Bool) (gw : Nat) (vl : Value) (L : List CaT) (hp : PW tw [.bool wb] w g v l lg) (hgw : HT w gw tb [.pointer (some ⟨g, 0, none⟩)]) (hgn : gw ≠ g ∧ v.ownBlock ≠ some gw) (hx : ∀ w', Kept (fun k => k = g ∨ v.ownBlock = some k) w w' → Rs CaT.vs 4 w' vl L) (hr : ∀ x ∈ L, okI x.ints) (hn : L.length ≤ 1024) (hlen : l.length ≤ 1000000000) :
  Calls Tryz.prog 62 #[.pointer (some ⟨g, 0, none⟩), vl, .func (.func 63) #[] #[.pointer (some ⟨gw, 0, none⟩)]] w fun e w' => e = .returned (.tuple #[]) ∧ PWPost tw [.bool wb] w g v (l ++ (encIs [(L.length : Int)] ++ encG CaT.bytes L)) lg w' := by
 obtain ⟨al, cl, rfl, hcl, hml⟩ := (hx w (Kept.refl _ _)).shape
 obtain ⟨n, hN⟩ : ∃ n, n = L.length := ⟨_, rfl⟩
 have hbx : Below w.heap.size w (w.alloc (.cells #[(n : Int)] 3)) := Bn
 have his : Is (w.alloc (.cells #[(n : Int)] 3)) (.slice (some ⟨w.heap.size, 0, none⟩) 1 1) [(n : Int)] := Is.block (l := [(n : Int)]) (heap_new rfl) (Nat.le_refl _) (by simp [maxLen])
 have wi := WInt_any (w.alloc (.cells #[(n : Int)] 3)) g v l lg _ _ (hp.below hbx) his (fun w2 hk => his.kept1 hk (fun _ k hi e => by
  obtain ⟨ad, n, c, hv, rfl⟩ := hi
  injection hv with h5
  injection h5 with h5
  subst h5
  rcases e with e | e
  ·
   have := hp.lt
   simp only at e
   omega
  ·
   have := (hp.row _ e).2
   simp only at this
   omega)) (by intro m hm; rw [List.mem_singleton] at hm; omega) (by simp; omega)
 have HP := Lh hp
 have HX := Lh hx
 have HR := Lh hr
 have HBX := Lh hbx
 have HGW := Lh (⟨hgw, hgn⟩ : _ ∧ _)
 have HN : Hid (n = L.length ∧ n ≤ 1024) := ⟨hN, by omega⟩
 have HLEN := Lh hlen
 have hn1 : (n : Int) ≤ 1024 := by omega
 rw [← hN] at hcl ⊢
 clear hbx his hp hx hr hlen hN hn hgw hgn
 go_in
 go_wp2_with fail
 refine wi.mono ?_
 clear wi
 rintro e w1 ⟨rfl, hp1⟩
 have HP1 := Lh (PWPost.pre HBX.out hp1)
 clear hp1
 go_wp2_with fail
 go_loopw [23] (fun v23 wr => ∃ k : Nat, k ≤ n ∧ v23 = .int .i64 k ∧ PWPost tw [.bool wb] w g v (l ++ (encIs [(n : Int)] ++ encG CaT.bytes (L.take k))) lg wr) (fun i _ => n - (intOf i).toNat)
 case atStart => exact ⟨0, Nat.zero_le _, rfl, by simpa [encG] using HP1.out⟩
 case round =>
  obtain ⟨k, hk, rfl, hpk⟩ := hrel
  have HPK := Lh hpk
  clear hpk
  by_cases hlt : k < n
  ·
   obtain ⟨v1, hp1, hk1, ho1⟩ := HPK.out
   have hrows := HX.out wr hk1
   have hkL : k < L.length := by rw [← HN.out.1]; exact hlt
   have hrows' : Rs CaT.vs 4 wr (.slice al n cl) L := by rw [HN.out.1]; exact hrows
   obtain ⟨b, off, rfl, hbw, hat⟩ := hrows'.at (by omega) (by decide)
   have hran : wr.rangeAt b (off + k * 4) [L[k].who, L[k].cur, L[k].amt, L[k].tick] := fun j u hu => hat k hkL j u hu
   have hal : Below wr.heap.size wr ((wr.alloc (.cells #[(0:Int), (0:Int), (0:Int), (0:Int)] 108)).setRow wr.heap.size #[L[k].who, L[k].cur, L[k].amt, L[k].tick]) := (Bn).trans (setRow_below (Nat.le_refl _) _)
   have HNEW : Hid ((wr.alloc (.cells #[(0:Int), (0:Int), (0:Int), (0:Int)] 108)).heap[wr.heap.size]? = some (.cells #[(0:Int), (0:Int), (0:Int), (0:Int)] 108 (0, 0))) := heap_alloc_new _ _
   have HNEW2 : Hid (((wr.alloc (.cells #[(0:Int), (0:Int), (0:Int), (0:Int)] 108)).setRow wr.heap.size #[L[k].who, L[k].cur, L[k].amt, L[k].tick]).heap[wr.heap.size]? = some (.cells #[L[k].who, L[k].cur, L[k].amt, L[k].tick] 108 (0, 0))) := setRow_heap _ _ _ _ _ _ (heap_alloc_new _ _)
   have HSZ : Hid ((Tryz.prog.info? 108).map (·.size) = some (#[L[k].who, L[k].cur, L[k].amt, L[k].tick] : Array Value).size) := by show _ = _; rw [cal_sz]; rfl
   have HONE : Hid ((#[L[k].who, L[k].cur, L[k].amt, L[k].tick] : Array Value).all (·.oneCell') = true) := by show _ = true; simp [Value.oneCell']
   have hgw1 := (HGW.out.1.keptH hk1 (fun e => e.elim (fun e => HGW.out.2.1 e) (fun e => HGW.out.2.2 e)))
   have hgn1 : gw ≠ g ∧ v1.ownBlock ≠ some gw := ⟨HGW.out.2.1, fun e => by rcases ho1 gw e with h | h; exact HGW.out.2.2 h; have := HGW.out.1.lt; omega⟩
   have wd := wcal_any (rs := [.bool wb]) (tw := tw) ((wr.alloc (.cells #[(0:Int), (0:Int), (0:Int), (0:Int)] 108)).setRow wr.heap.size #[L[k].who, L[k].cur, L[k].amt, L[k].tick]) g v1 _ lg gw L[k] (hp1.below hal) (hgw1.below hal) hgn1 (HR.out L[k] (List.getElem_mem hkL)) (by
    have h1 := HLEN.out
    have h2 := encIs_length [(n : Int)] (by intro m hm; rw [List.mem_singleton] at hm; omega)
    have h3 := encG_length CaT.bytes 200 (L.take k) (fun x hx => CaT.blen x (HR.out x (List.mem_of_mem_take hx)))
    rw [List.length_take] at h3
    simp only [List.length_append, List.length_singleton] at h2 ⊢
    have := HN.out.2
    have : min k L.length ≤ 1024 := by omega
    omega)
   have HRAN := Lh hran
   have HAL := Lh hal
   have HPP := Lh (⟨hp1, hk1, ho1⟩ : _ ∧ _ ∧ _)
   have hk0 : (0 : Int) ≤ k := by omega
   have hk1' : (k : Int) < n := by omega
   have hcap : k < cl := by omega
   clear hrows hrows' hran hal hat hp1 hk1 ho1 hgw1 hgn1
   go_wp2_with (first
    | (refine wpList_load_mid rfl 108 (.tmp 25) rfl b (off + k * 4) rfl [L[k].who, L[k].cur, L[k].amt, L[k].tick] _ HRAN.out Tryz.underlying108 rfl HSZ.out ?_)
    | (refine wpList_store_row rfl 108 (.tmp 7) (.tmp 26) rfl wr.heap.size #[L[k].who, L[k].cur, L[k].amt, L[k].tick] rfl rfl 108 #[(0:Int), (0:Int), (0:Int), (0:Int)] HNEW.out HSZ.out rfl HONE.out ?_)
    | (refine wpList_load_row rfl 108 (.tmp 7) rfl wr.heap.size rfl 108 #[L[k].who, L[k].cur, L[k].amt, L[k].tick] (0, 0) _ HNEW2.out Tryz.underlying108 rfl HSZ.out ?_)
    | fail)
   refine wd.mono ?_
   clear wd
   rintro e w5 ⟨rfl, hp5⟩
   have HP5 := Lh (PWPost.next HPP.out (PWPost.pre HAL.out hp5))
   clear hp5
   go_wp2_with fail
   exact ⟨⟨k + 1, by omega, by push_cast; rfl, by
    have h := HP5.out
    rw [List.append_assoc, List.append_assoc] at h
    rw [encG_snoc _ hkL]
    exact h⟩, by simp [intOf]; omega⟩
  ·
   obtain rfl : k = n := by omega
   go_wp2_with fail
   go_end0
   exact ⟨rfl, by have h := HPK.out; rwa [List.take_of_length_le (by rw [← HN.out.1]; exact Nat.le_refl _)] at h⟩
theorem wlistA_cal (w : World) (g : Nat) (v : Value) (l : List UInt8) (lg wb : Bool) (gw : Nat) (vl : Value) (L : List CaT) (hp : PW tw [.bool wb] w g v l lg) (hgw : HT w gw tb [.pointer (some ⟨g, 0, none⟩)]) (hgn : gw ≠ g ∧ v.ownBlock ≠ some gw) (hx : ∀ w', Kept (fun k => k = g ∨ v.ownBlock = some k) w w' → Rs CaT.vs 4 w' vl L) (hr : ∀ x ∈ L, okI x.ints) (hlen : l.length ≤ 1000000000) :
  Calls Tryz.prog 62 #[.pointer (some ⟨g, 0, none⟩), vl, .func (.func 63) #[] #[.pointer (some ⟨gw, 0, none⟩)]] w fun e w' => e = .returned (.tuple #[]) ∧ PWPost tw [.bool (wb || decide (1024 < L.length))] w g v (l ++ lwG CaT.bytes L) lg w' := by
 by_cases h : 1024 < L.length
 ·
  rw [decide_eq_true h, Bool.or_true, lwG, if_pos h, List.append_nil]
  exact wlist_cal_no w g v l lg wb vl L hp (hx w (Kept.refl _ _)) h _
 ·
  rw [decide_eq_false h, Bool.or_false, lwG, if_neg h]
  exact wlist_cal w g v l lg wb gw vl L hp hgw hgn hx hr (by omega) hlen
theorem wlist_bid_no (w : World) (g : Nat) (v : Value) (l : List UInt8) (lg wb : Bool) (vl : Value) (L : List BiT) (hp : PW tw [.bool wb] w g v l lg) (hx : Rs BiT.vs 5 w vl L) (hn : 1024 < L.length) (vf : Value) :
  Calls Tryz.prog 64 #[.pointer (some ⟨g, 0, none⟩), vl, vf] w fun e w' => e = .returned (.tuple #[]) ∧ PWPost tw [.bool true] w g v l lg w' := by
 obtain ⟨al, cl, rfl, hcl, hml⟩ := hx.shape
 have hc : HT w g tw [v, .bool lg, .bool wb] := hp.1
 have hcell := hc.cell (j := 2) rfl
 have hfr := hc.frozen 2
 have hput := hc.put 2 (.bool true)
 have hk : Kept (fun k => k = g ∨ v.ownBlock = some k) w (w.setCell ⟨g, 2, none⟩ (.bool true)) := (Kept.refl _ w).setCell _ _ (.inl rfl)
 have ho : OwnB 5 (w.setCell ⟨g, 2, none⟩ (.bool true)) (g + 1) v l := OwnB.keptS hp.2 (S := fun k => k = g) ((Kept.refl (fun k => k = g) w).setCell _ _ rfl) (fun k hk (e : k = g) => by have := (hp.row k hk).1; omega)
 have hn1 : (1024 : Int) < (L.length : Int) := by omega
 have HF := Lh (⟨v, ⟨hput, ho⟩, hk, fun k h => .inl h⟩ : PWPost tw [.bool true] w g v l lg (w.setCell ⟨g, 2, none⟩ (.bool true)))
 clear hput hk ho hc hp hx
 go_in
 go_wp2_with fail
 refine bodyPost_ret (results_none rfl _ _ _) rfl ?_
 exact ⟨rfl, HF.out⟩
theorem wlist_bid (w : World) (g : Nat) (v : Value) (l : List UInt8) (lg wb : Bool) (gw : Nat) (vl : Value) (L : List BiT) (hp : PW tw [.bool wb] w g v l lg) (hgw : HT w gw tb [.pointer (some ⟨g, 0, none⟩)]) (hgn : gw ≠ g ∧ v.ownBlock ≠ some gw) (hx : ∀ w', Kept (fun k => k = g ∨ v.ownBlock = some k) w w' → Rs BiT.vs 5 w' vl L) (hr : ∀ x ∈ L, okI x.ints) (hn : L.length ≤ 1024) (hlen : l.length ≤ 1000000000) :
  Calls Tryz.prog 64 #[.pointer (some ⟨g, 0, none⟩), vl, .func (.func 65) #[] #[.pointer (some ⟨gw, 0, none⟩)]] w fun e w' => e = .returned (.tuple #[]) ∧ PWPost tw [.bool wb] w g v (l ++ (encIs [(L.length : Int)] ++ encG BiT.bytes L)) lg w' := by
 obtain ⟨al, cl, rfl, hcl, hml⟩ := (hx w (Kept.refl _ _)).shape
 obtain ⟨n, hN⟩ : ∃ n, n = L.length := ⟨_, rfl⟩
 have hbx : Below w.heap.size w (w.alloc (.cells #[(n : Int)] 3)) := Bn
 have his : Is (w.alloc (.cells #[(n : Int)] 3)) (.slice (some ⟨w.heap.size, 0, none⟩) 1 1) [(n : Int)] := Is.block (l := [(n : Int)]) (heap_new rfl) (Nat.le_refl _) (by simp [maxLen])
 have wi := WInt_any (w.alloc (.cells #[(n : Int)] 3)) g v l lg _ _ (hp.below hbx) his (fun w2 hk => his.kept1 hk (fun _ k hi e => by
  obtain ⟨ad, n, c, hv, rfl⟩ := hi
  injection hv with h5
  injection h5 with h5
  subst h5
  rcases e with e | e
  ·
   have := hp.lt
   simp only at e
   omega
  ·
   have := (hp.row _ e).2
   simp only at this
   omega)) (by intro m hm; rw [List.mem_singleton] at hm; omega) (by simp; omega)
 have HP := Lh hp
 have HX := Lh hx
 have HR := Lh hr
 have HBX := Lh hbx
 have HGW := Lh (⟨hgw, hgn⟩ : _ ∧ _)
 have HN : Hid (n = L.length ∧ n ≤ 1024) := ⟨hN, by omega⟩
 have HLEN := Lh hlen
 have hn1 : (n : Int) ≤ 1024 := by omega
 rw [← hN] at hcl ⊢
 clear hbx his hp hx hr hlen hN hn hgw hgn
 go_in
 go_wp2_with fail
 refine wi.mono ?_
 clear wi
 rintro e w1 ⟨rfl, hp1⟩
 have HP1 := Lh (PWPost.pre HBX.out hp1)
 clear hp1
 go_wp2_with fail
 go_loopw [23] (fun v23 wr => ∃ k : Nat, k ≤ n ∧ v23 = .int .i64 k ∧ PWPost tw [.bool wb] w g v (l ++ (encIs [(n : Int)] ++ encG BiT.bytes (L.take k))) lg wr) (fun i _ => n - (intOf i).toNat)
 case atStart => exact ⟨0, Nat.zero_le _, rfl, by simpa [encG] using HP1.out⟩
 case round =>
  obtain ⟨k, hk, rfl, hpk⟩ := hrel
  have HPK := Lh hpk
  clear hpk
  by_cases hlt : k < n
  ·
   obtain ⟨v1, hp1, hk1, ho1⟩ := HPK.out
   have hrows := HX.out wr hk1
   have hkL : k < L.length := by rw [← HN.out.1]; exact hlt
   have hrows' : Rs BiT.vs 5 wr (.slice al n cl) L := by rw [HN.out.1]; exact hrows
   obtain ⟨b, off, rfl, hbw, hat⟩ := hrows'.at (by omega) (by decide)
   have hran : wr.rangeAt b (off + k * 5) [L[k].who, L[k].inst, L[k].frm, L[k].qty, L[k].price] := fun j u hu => hat k hkL j u hu
   have hal : Below wr.heap.size wr ((wr.alloc (.cells #[(0:Int), (0:Int), (0:Int), (0:Int), (0:Int)] 110)).setRow wr.heap.size #[L[k].who, L[k].inst, L[k].frm, L[k].qty, L[k].price]) := (Bn).trans (setRow_below (Nat.le_refl _) _)
   have HNEW : Hid ((wr.alloc (.cells #[(0:Int), (0:Int), (0:Int), (0:Int), (0:Int)] 110)).heap[wr.heap.size]? = some (.cells #[(0:Int), (0:Int), (0:Int), (0:Int), (0:Int)] 110 (0, 0))) := heap_alloc_new _ _
   have HNEW2 : Hid (((wr.alloc (.cells #[(0:Int), (0:Int), (0:Int), (0:Int), (0:Int)] 110)).setRow wr.heap.size #[L[k].who, L[k].inst, L[k].frm, L[k].qty, L[k].price]).heap[wr.heap.size]? = some (.cells #[L[k].who, L[k].inst, L[k].frm, L[k].qty, L[k].price] 110 (0, 0))) := setRow_heap _ _ _ _ _ _ (heap_alloc_new _ _)
   have HSZ : Hid ((Tryz.prog.info? 110).map (·.size) = some (#[L[k].who, L[k].inst, L[k].frm, L[k].qty, L[k].price] : Array Value).size) := by show _ = _; rw [bid_sz]; rfl
   have HONE : Hid ((#[L[k].who, L[k].inst, L[k].frm, L[k].qty, L[k].price] : Array Value).all (·.oneCell') = true) := by show _ = true; simp [Value.oneCell']
   have hgw1 := (HGW.out.1.keptH hk1 (fun e => e.elim (fun e => HGW.out.2.1 e) (fun e => HGW.out.2.2 e)))
   have hgn1 : gw ≠ g ∧ v1.ownBlock ≠ some gw := ⟨HGW.out.2.1, fun e => by rcases ho1 gw e with h | h; exact HGW.out.2.2 h; have := HGW.out.1.lt; omega⟩
   have wd := wbid_any (rs := [.bool wb]) (tw := tw) ((wr.alloc (.cells #[(0:Int), (0:Int), (0:Int), (0:Int), (0:Int)] 110)).setRow wr.heap.size #[L[k].who, L[k].inst, L[k].frm, L[k].qty, L[k].price]) g v1 _ lg gw L[k] (hp1.below hal) (hgw1.below hal) hgn1 (HR.out L[k] (List.getElem_mem hkL)) (by
    have h1 := HLEN.out
    have h2 := encIs_length [(n : Int)] (by intro m hm; rw [List.mem_singleton] at hm; omega)
    have h3 := encG_length BiT.bytes 200 (L.take k) (fun x hx => BiT.blen x (HR.out x (List.mem_of_mem_take hx)))
    rw [List.length_take] at h3
    simp only [List.length_append, List.length_singleton] at h2 ⊢
    have := HN.out.2
    have : min k L.length ≤ 1024 := by omega
    omega)
   have HRAN := Lh hran
   have HAL := Lh hal
   have HPP := Lh (⟨hp1, hk1, ho1⟩ : _ ∧ _ ∧ _)
   have hk0 : (0 : Int) ≤ k := by omega
   have hk1' : (k : Int) < n := by omega
   have hcap : k < cl := by omega
   clear hrows hrows' hran hal hat hp1 hk1 ho1 hgw1 hgn1
   go_wp2_with (first
    | (refine wpList_load_mid rfl 110 (.tmp 25) rfl b (off + k * 5) rfl [L[k].who, L[k].inst, L[k].frm, L[k].qty, L[k].price] _ HRAN.out Tryz.underlying110 rfl HSZ.out ?_)
    | (refine wpList_store_row rfl 110 (.tmp 7) (.tmp 26) rfl wr.heap.size #[L[k].who, L[k].inst, L[k].frm, L[k].qty, L[k].price] rfl rfl 110 #[(0:Int), (0:Int), (0:Int), (0:Int), (0:Int)] HNEW.out HSZ.out rfl HONE.out ?_)
    | (refine wpList_load_row rfl 110 (.tmp 7) rfl wr.heap.size rfl 110 #[L[k].who, L[k].inst, L[k].frm, L[k].qty, L[k].price] (0, 0) _ HNEW2.out Tryz.underlying110 rfl HSZ.out ?_)
    | fail)
   refine wd.mono ?_
   clear wd
   rintro e w5 ⟨rfl, hp5⟩
   have HP5 := Lh (PWPost.next HPP.out (PWPost.pre HAL.out hp5))
   clear hp5
   go_wp2_with fail
   exact ⟨⟨k + 1, by omega, by push_cast; rfl, by
    have h := HP5.out
    rw [List.append_assoc, List.append_assoc] at h
    rw [encG_snoc _ hkL]
    exact h⟩, by simp [intOf]; omega⟩
  ·
   obtain rfl : k = n := by omega
   go_wp2_with fail
   go_end0
   exact ⟨rfl, by have h := HPK.out; rwa [List.take_of_length_le (by rw [← HN.out.1]; exact Nat.le_refl _)] at h⟩
theorem wlistA_bid (w : World) (g : Nat) (v : Value) (l : List UInt8) (lg wb : Bool) (gw : Nat) (vl : Value) (L : List BiT) (hp : PW tw [.bool wb] w g v l lg) (hgw : HT w gw tb [.pointer (some ⟨g, 0, none⟩)]) (hgn : gw ≠ g ∧ v.ownBlock ≠ some gw) (hx : ∀ w', Kept (fun k => k = g ∨ v.ownBlock = some k) w w' → Rs BiT.vs 5 w' vl L) (hr : ∀ x ∈ L, okI x.ints) (hlen : l.length ≤ 1000000000) :
  Calls Tryz.prog 64 #[.pointer (some ⟨g, 0, none⟩), vl, .func (.func 65) #[] #[.pointer (some ⟨gw, 0, none⟩)]] w fun e w' => e = .returned (.tuple #[]) ∧ PWPost tw [.bool (wb || decide (1024 < L.length))] w g v (l ++ lwG BiT.bytes L) lg w' := by
 by_cases h : 1024 < L.length
 ·
  rw [decide_eq_true h, Bool.or_true, lwG, if_pos h, List.append_nil]
  exact wlist_bid_no w g v l lg wb vl L hp (hx w (Kept.refl _ _)) h _
 ·
  rw [decide_eq_false h, Bool.or_false, lwG, if_neg h]
  exact wlist_bid w g v l lg wb gw vl L hp hgw hgn hx hr (by omega) hlen
end Cam
