import Derived.Test.YtgeclnjkkjmbaaaGreatWrOz
import Derived.Test.YtgeclnjkkjmbaaaGreatWrH
import Derived.Test.YtgeclnjkkjmbaaaGreatRowIz
import Derived.Deep.MidRow
/- wire.list over dues and falls. -/
namespace Cam
open Go Go.RowKit Go.Proofs
set_option linter.unusedVariables false
set_option linter.unusedSimpArgs false
set_option maxHeartbeats 3200000
variable {tw : TypeId}
theorem OwnB.keptS {S : Nat → Prop} {t : TypeId} {w w' : World} {base : Nat} {v : Value} {l : List UInt8} (h : OwnB t w base v l) (hk : Kept S w w') (hS : ∀ k, v.ownBlock = some k → ¬ S k) : OwnB t w' base v l := by
 refine ⟨h.1, ?_⟩
 rcases h.2 with h2 | ⟨g, cap, cur, hv, hg, hh, r⟩
 ·
  exact Or.inl h2
 ·
  refine Or.inr ⟨g, cap, cur, hv, hg, ?_, r⟩
  rw [hk.block g (Array.getElem?_eq_some_iff.1 hh).1 (hS g (by rw [hv]; rfl))]
  exact hh
def encR {α : Type} (f : α → List Int) (L : List α) : List UInt8 := (L.map fun a => encIs (f a)).flatten
theorem encR_snoc {α : Type} (f : α → List Int) {L : List α} {k : Nat} (h : k < L.length) : encR f (L.take (k + 1)) = encR f (L.take k) ++ encIs (f L[k]) := by
 unfold encR
 rw [List.take_succ_eq_append_getElem h, List.map_append, List.flatten_append]
 simp only [List.map_cons, List.map_nil, List.flatten_cons, List.flatten_nil, List.append_nil]
theorem encR_length {α : Type} (f : α → List Int) (K : Nat) : ∀ (L : List α), (∀ x ∈ L, (f x).length = K) → (∀ x ∈ L, ∀ n ∈ f x, -9223372036854775808 ≤ n ∧ n ≤ 9223372036854775807) → (encR f L).length ≤ L.length * (10 * K)
 | [], _, _ => by simp [encR]
 | a :: L, h, hr => by
  have ih := encR_length f K L (fun x hx => h x (by simp [hx])) (fun x hx => hr x (by simp [hx]))
  have h1 := encIs_length (f a) (hr a (by simp))
  rw [h a (by simp)] at h1
  have e : encR f (a :: L) = encIs (f a) ++ encR f L := by simp [encR]
  rw [e, List.length_append, List.length_cons, Nat.add_mul]
  omega
structure DT where
 who : Int
 cur : Int
 amt : Int
deriving DecidableEq
def DT.ints (c : DT) : List Int := [c.who, c.cur, c.amt]
def DT.vs (c : DT) : List Value := [c.who, c.cur, c.amt]
theorem DT.len (c : DT) : c.vs.length = 3 := rfl
structure FT where
 cur : Int
 loss : Int
 p0 : Int
 p1 : Int
 p2 : Int
 p3 : Int
 p4 : Int
 rest : Int
deriving DecidableEq
def FT.ints (c : FT) : List Int := [c.cur, c.loss, c.p0, c.p1, c.p2, c.p3, c.p4, c.rest]
def FT.vs (c : FT) : List Value := [c.cur, c.loss, c.p0, c.p1, c.p2, c.p3, c.p4, c.rest]
theorem FT.len (c : FT) : c.vs.length = 8 := rfl
theorem wlist_due_no (w : World) (g : Nat) (v : Value) (l : List UInt8) (lg wb : Bool) (vl : Value) (L : List DT) (hp : PW tw [.bool wb] w g v l lg) (hx : Rs DT.vs 3 w vl L) (hn : 1024 < L.length) (vf : Value) :
  Calls Tryz.prog 107 #[.pointer (some ⟨g, 0, none⟩), vl, vf] w fun e w' => e = .returned (.tuple #[]) ∧ PWPost tw [.bool true] w g v l lg w' := by
 obtain ⟨al, cl, rfl, hcl, hml⟩ := hx.shape
 have hc : HT w g tw [v, .bool lg, .bool wb] := hp.1
 have hcell := hc.cell (j := 2) rfl
 have hfr := hc.frozen 2
 have hput := hc.put 2 (.bool true)
 have hk : Kept (fun k => k = g ∨ v.ownBlock = some k) w (w.setCell ⟨g, 2, none⟩ (.bool true)) := (Kept.refl _ w).setCell _ _ (.inl rfl)
 have ho : OwnB 5 (w.setCell ⟨g, 2, none⟩ (.bool true)) (g + 1) v l := OwnB.keptS hp.2 (S := fun k => k = g) ((Kept.refl (fun k => k = g) w).setCell _ _ rfl) (fun k hk (e : k = g) => by have := (hp.row k hk).1; omega)
 have hn1 : (1024 : Int) < (L.length : Int) := by omega
 have HF := Lh (⟨v, ⟨hput, ho⟩, hk, fun k h => .inl h⟩ : PWPost tw [.bool true] w g v l lg (w.setCell ⟨g, 2, none⟩ (.bool true)))
 clear hput hk ho hc hp hx
 go_in
 go_wp2_with fail
 refine bodyPost_ret (results_none rfl _ _ _) rfl ?_
 exact ⟨rfl, HF.out⟩
theorem wlist_due (w : World) (g : Nat) (v : Value) (l : List UInt8) (lg wb : Bool) (vl : Value) (L : List DT) (hp : PW tw [.bool wb] w g v l lg) (hx : ∀ w', Kept (fun k => k = g ∨ v.ownBlock = some k) w w' → Rs DT.vs 3 w' vl L) (hr : ∀ x ∈ L, ∀ n ∈ x.ints, -9223372036854775808 ≤ n ∧ n ≤ 9223372036854775807) (hn : L.length ≤ 1024) (hlen : l.length ≤ 1000000000) :
  Calls Tryz.prog 107 #[.pointer (some ⟨g, 0, none⟩), vl, .func (.func 108) #[.pointer (some ⟨g, 0, none⟩)] #[]] w fun e w' => e = .returned (.tuple #[]) ∧ PWPost tw [.bool wb] w g v (l ++ (encIs [(L.length : Int)] ++ encR DT.ints L)) lg w' := by
 obtain ⟨al, cl, rfl, hcl, hml⟩ := (hx w (Kept.refl _ _)).shape
 obtain ⟨n, hN⟩ : ∃ n, n = L.length := ⟨_, rfl⟩
 have hbx : Below w.heap.size w (w.alloc (.cells #[(n : Int)] 3)) := Bn
 have his : Is (w.alloc (.cells #[(n : Int)] 3)) (.slice (some ⟨w.heap.size, 0, none⟩) 1 1) [(n : Int)] := Is.block (l := [(n : Int)]) (heap_new rfl) (Nat.le_refl _) (by simp [maxLen])
 have wi := WInt_any (w.alloc (.cells #[(n : Int)] 3)) g v l lg _ _ (hp.below hbx) his (fun w2 hk => his.kept1 hk (fun _ k hi e => by
  obtain ⟨ad, n, c, hv, rfl⟩ := hi
  injection hv with h5
  injection h5 with h5
  subst h5
  rcases e with e | e
  ·
   have := hp.lt
   simp only at e
   omega
  ·
   have := (hp.row _ e).2
   simp only at this
   omega)) (by intro m hm; rw [List.mem_singleton] at hm; omega) (by simp; omega)
 have HP := Lh hp
 have HX := Lh hx
 have HR := Lh hr
 have HBX := Lh hbx
 have HN : Hid (n = L.length ∧ n ≤ 1024) := ⟨hN, by omega⟩
 have HLEN := Lh hlen
 have hn1 : (n : Int) ≤ 1024 := by omega
 rw [← hN] at hcl ⊢
 clear hbx his hp hx hr hlen hN hn
 go_in
 go_wp2_with fail
 refine wi.mono ?_
 clear wi
 rintro e w1 ⟨rfl, hp1⟩
 have HP1 := Lh (PWPost.pre HBX.out hp1)
 clear hp1
 go_wp2_with fail
 go_loopw [23] (fun v23 wr => ∃ k : Nat, k ≤ n ∧ v23 = .int .i64 k ∧ PWPost tw [.bool wb] w g v (l ++ (encIs [(n : Int)] ++ encR DT.ints (L.take k))) lg wr) (fun i _ => n - (intOf i).toNat)
 case atStart => exact ⟨0, Nat.zero_le _, rfl, by simpa [encR] using HP1.out⟩
 case round =>
  obtain ⟨k, hk, rfl, hpk⟩ := hrel
  have HPK := Lh hpk
  clear hpk
  by_cases hlt : k < n
  ·
   obtain ⟨v1, hp1, hk1, ho1⟩ := HPK.out
   have hrows := HX.out wr hk1
   have hkL : k < L.length := by rw [← HN.out.1]; exact hlt
   have hrows' : Rs DT.vs 3 wr (.slice al n cl) L := by rw [HN.out.1]; exact hrows
   obtain ⟨b, off, rfl, hbw, hat⟩ := hrows'.at (by omega) (by decide)
   have hran : wr.rangeAt b (off + k * 3) [L[k].who, L[k].cur, L[k].amt] := fun j u hu => hat k hkL j u hu
   have hal : Below wr.heap.size wr ((wr.alloc (.cells #[(0:Int), (0:Int), (0:Int)] 106)).setRow wr.heap.size #[L[k].who, L[k].cur, L[k].amt]) := (Bn).trans (setRow_below (Nat.le_refl _) _)
   have HNEW : Hid ((wr.alloc (.cells #[(0:Int), (0:Int), (0:Int)] 106)).heap[wr.heap.size]? = some (.cells #[(0:Int), (0:Int), (0:Int)] 106 (0, 0))) := heap_alloc_new _ _
   have HNEW2 : Hid (((wr.alloc (.cells #[(0:Int), (0:Int), (0:Int)] 106)).setRow wr.heap.size #[L[k].who, L[k].cur, L[k].amt]).heap[wr.heap.size]? = some (.cells #[L[k].who, L[k].cur, L[k].amt] 106 (0, 0))) := setRow_heap _ _ _ _ _ _ (heap_alloc_new _ _)
   have HSZ : Hid ((Tryz.prog.info? 106).map (·.size) = some (#[L[k].who, L[k].cur, L[k].amt] : Array Value).size) := by show _ = _; rw [show ((Tryz.prog.info? 106).map (·.size)) = some 3 from by kernel_rfl]; rfl
   have HONE : Hid ((#[L[k].who, L[k].cur, L[k].amt] : Array Value).all (·.oneCell') = true) := by show _ = true; simp [Value.oneCell']
   have wd := wdue_any (rs := [.bool wb]) (tw := tw) ((wr.alloc (.cells #[(0:Int), (0:Int), (0:Int)] 106)).setRow wr.heap.size #[L[k].who, L[k].cur, L[k].amt]) g v1 _ lg L[k].who L[k].cur L[k].amt (hp1.below hal) (HR.out L[k] (List.getElem_mem hkL)) (by
    have h1 := HLEN.out
    have h2 := encIs_length [(n : Int)] (by intro m hm; rw [List.mem_singleton] at hm; omega)
    have h3 := encR_length DT.ints 3 (L.take k) (fun x hx => rfl) (fun x hx => HR.out x (List.mem_of_mem_take hx))
    rw [List.length_take] at h3
    simp only [List.length_append, List.length_singleton] at h2 ⊢
    have := HN.out.2
    have : min k L.length ≤ 1024 := by omega
    omega)
   have HRAN := Lh hran
   have HAL := Lh hal
   have HPP := Lh (⟨hp1, hk1, ho1⟩ : _ ∧ _ ∧ _)
   have hk0 : (0 : Int) ≤ k := by omega
   have hk1' : (k : Int) < n := by omega
   have hcap : k < cl := by omega
   clear hrows hrows' hran hal hat hp1 hk1 ho1
   go_wp2_with (first
    | (refine wpList_load_mid rfl 106 (.tmp 25) rfl b (off + k * 3) rfl [L[k].who, L[k].cur, L[k].amt] _ HRAN.out Tryz.underlying106 rfl HSZ.out ?_)
    | (refine wpList_store_row rfl 106 (.tmp 7) (.tmp 26) rfl wr.heap.size #[L[k].who, L[k].cur, L[k].amt] rfl rfl 106 #[(0:Int), (0:Int), (0:Int)] HNEW.out HSZ.out rfl HONE.out ?_)
    | (refine wpList_load_row rfl 106 (.tmp 7) rfl wr.heap.size rfl 106 #[L[k].who, L[k].cur, L[k].amt] (0, 0) _ HNEW2.out Tryz.underlying106 rfl HSZ.out ?_)
    | fail)
   refine wd.mono ?_
   clear wd
   rintro e w5 ⟨rfl, hp5⟩
   have HP5 := Lh (PWPost.next HPP.out (PWPost.pre HAL.out hp5))
   clear hp5
   go_wp2_with fail
   exact ⟨⟨k + 1, by omega, by push_cast; rfl, by
    have h := HP5.out
    rw [List.append_assoc, List.append_assoc] at h
    rw [encR_snoc _ hkL]
    exact h⟩, by simp [intOf]; omega⟩
  ·
   obtain rfl : k = n := by omega
   go_wp2_with fail
   go_end0
   exact ⟨rfl, by have h := HPK.out; rwa [List.take_of_length_le (by rw [← HN.out.1]; exact Nat.le_refl _)] at h⟩
theorem wlist_fall_no (w : World) (g : Nat) (v : Value) (l : List UInt8) (lg wb : Bool) (vl : Value) (L : List FT) (hp : PW tw [.bool wb] w g v l lg) (hx : Rs FT.vs 8 w vl L) (hn : 1024 < L.length) (vf : Value) :
  Calls Tryz.prog 109 #[.pointer (some ⟨g, 0, none⟩), vl, vf] w fun e w' => e = .returned (.tuple #[]) ∧ PWPost tw [.bool true] w g v l lg w' := by
 obtain ⟨al, cl, rfl, hcl, hml⟩ := hx.shape
 have hc : HT w g tw [v, .bool lg, .bool wb] := hp.1
 have hcell := hc.cell (j := 2) rfl
 have hfr := hc.frozen 2
 have hput := hc.put 2 (.bool true)
 have hk : Kept (fun k => k = g ∨ v.ownBlock = some k) w (w.setCell ⟨g, 2, none⟩ (.bool true)) := (Kept.refl _ w).setCell _ _ (.inl rfl)
 have ho : OwnB 5 (w.setCell ⟨g, 2, none⟩ (.bool true)) (g + 1) v l := OwnB.keptS hp.2 (S := fun k => k = g) ((Kept.refl (fun k => k = g) w).setCell _ _ rfl) (fun k hk (e : k = g) => by have := (hp.row k hk).1; omega)
 have hn1 : (1024 : Int) < (L.length : Int) := by omega
 have HF := Lh (⟨v, ⟨hput, ho⟩, hk, fun k h => .inl h⟩ : PWPost tw [.bool true] w g v l lg (w.setCell ⟨g, 2, none⟩ (.bool true)))
 clear hput hk ho hc hp hx
 go_in
 go_wp2_with fail
 refine bodyPost_ret (results_none rfl _ _ _) rfl ?_
 exact ⟨rfl, HF.out⟩
theorem wlist_fall (w : World) (g : Nat) (v : Value) (l : List UInt8) (lg wb : Bool) (vl : Value) (L : List FT) (hp : PW tw [.bool wb] w g v l lg) (hx : ∀ w', Kept (fun k => k = g ∨ v.ownBlock = some k) w w' → Rs FT.vs 8 w' vl L) (hr : ∀ x ∈ L, ∀ n ∈ x.ints, -9223372036854775808 ≤ n ∧ n ≤ 9223372036854775807) (hn : L.length ≤ 1024) (hlen : l.length ≤ 1000000000) :
  Calls Tryz.prog 109 #[.pointer (some ⟨g, 0, none⟩), vl, .func (.func 110) #[.pointer (some ⟨g, 0, none⟩)] #[]] w fun e w' => e = .returned (.tuple #[]) ∧ PWPost tw [.bool wb] w g v (l ++ (encIs [(L.length : Int)] ++ encR FT.ints L)) lg w' := by
 obtain ⟨al, cl, rfl, hcl, hml⟩ := (hx w (Kept.refl _ _)).shape
 obtain ⟨n, hN⟩ : ∃ n, n = L.length := ⟨_, rfl⟩
 have hbx : Below w.heap.size w (w.alloc (.cells #[(n : Int)] 3)) := Bn
 have his : Is (w.alloc (.cells #[(n : Int)] 3)) (.slice (some ⟨w.heap.size, 0, none⟩) 1 1) [(n : Int)] := Is.block (l := [(n : Int)]) (heap_new rfl) (Nat.le_refl _) (by simp [maxLen])
 have wi := WInt_any (w.alloc (.cells #[(n : Int)] 3)) g v l lg _ _ (hp.below hbx) his (fun w2 hk => his.kept1 hk (fun _ k hi e => by
  obtain ⟨ad, n, c, hv, rfl⟩ := hi
  injection hv with h5
  injection h5 with h5
  subst h5
  rcases e with e | e
  ·
   have := hp.lt
   simp only at e
   omega
  ·
   have := (hp.row _ e).2
   simp only at this
   omega)) (by intro m hm; rw [List.mem_singleton] at hm; omega) (by simp; omega)
 have HP := Lh hp
 have HX := Lh hx
 have HR := Lh hr
 have HBX := Lh hbx
 have HN : Hid (n = L.length ∧ n ≤ 1024) := ⟨hN, by omega⟩
 have HLEN := Lh hlen
 have hn1 : (n : Int) ≤ 1024 := by omega
 rw [← hN] at hcl ⊢
 clear hbx his hp hx hr hlen hN hn
 go_in
 go_wp2_with fail
 refine wi.mono ?_
 clear wi
 rintro e w1 ⟨rfl, hp1⟩
 have HP1 := Lh (PWPost.pre HBX.out hp1)
 clear hp1
 go_wp2_with fail
 go_loopw [23] (fun v23 wr => ∃ k : Nat, k ≤ n ∧ v23 = .int .i64 k ∧ PWPost tw [.bool wb] w g v (l ++ (encIs [(n : Int)] ++ encR FT.ints (L.take k))) lg wr) (fun i _ => n - (intOf i).toNat)
 case atStart => exact ⟨0, Nat.zero_le _, rfl, by simpa [encR] using HP1.out⟩
 case round =>
  obtain ⟨k, hk, rfl, hpk⟩ := hrel
  have HPK := Lh hpk
  clear hpk
  by_cases hlt : k < n
  ·
   obtain ⟨v1, hp1, hk1, ho1⟩ := HPK.out
   have hrows := HX.out wr hk1
   have hkL : k < L.length := by rw [← HN.out.1]; exact hlt
   have hrows' : Rs FT.vs 8 wr (.slice al n cl) L := by rw [HN.out.1]; exact hrows
   obtain ⟨b, off, rfl, hbw, hat⟩ := hrows'.at (by omega) (by decide)
   have hran : wr.rangeAt b (off + k * 8) [L[k].cur, L[k].loss, L[k].p0, L[k].p1, L[k].p2, L[k].p3, L[k].p4, L[k].rest] := fun j u hu => hat k hkL j u hu
   have hal : Below wr.heap.size wr ((wr.alloc (.cells #[(0:Int), (0:Int), (0:Int), (0:Int), (0:Int), (0:Int), (0:Int), (0:Int)] 159)).setRow wr.heap.size #[L[k].cur, L[k].loss, L[k].p0, L[k].p1, L[k].p2, L[k].p3, L[k].p4, L[k].rest]) := (Bn).trans (setRow_below (Nat.le_refl _) _)
   have HNEW : Hid ((wr.alloc (.cells #[(0:Int), (0:Int), (0:Int), (0:Int), (0:Int), (0:Int), (0:Int), (0:Int)] 159)).heap[wr.heap.size]? = some (.cells #[(0:Int), (0:Int), (0:Int), (0:Int), (0:Int), (0:Int), (0:Int), (0:Int)] 159 (0, 0))) := heap_alloc_new _ _
   have HNEW2 : Hid (((wr.alloc (.cells #[(0:Int), (0:Int), (0:Int), (0:Int), (0:Int), (0:Int), (0:Int), (0:Int)] 159)).setRow wr.heap.size #[L[k].cur, L[k].loss, L[k].p0, L[k].p1, L[k].p2, L[k].p3, L[k].p4, L[k].rest]).heap[wr.heap.size]? = some (.cells #[L[k].cur, L[k].loss, L[k].p0, L[k].p1, L[k].p2, L[k].p3, L[k].p4, L[k].rest] 159 (0, 0))) := setRow_heap _ _ _ _ _ _ (heap_alloc_new _ _)
   have HSZ : Hid ((Tryz.prog.info? 159).map (·.size) = some (#[L[k].cur, L[k].loss, L[k].p0, L[k].p1, L[k].p2, L[k].p3, L[k].p4, L[k].rest] : Array Value).size) := by show _ = _; rw [show ((Tryz.prog.info? 159).map (·.size)) = some 8 from by kernel_rfl]; rfl
   have HONE : Hid ((#[L[k].cur, L[k].loss, L[k].p0, L[k].p1, L[k].p2, L[k].p3, L[k].p4, L[k].rest] : Array Value).all (·.oneCell') = true) := by show _ = true; simp [Value.oneCell']
   have wd := wfall_any (rs := [.bool wb]) (tw := tw) ((wr.alloc (.cells #[(0:Int), (0:Int), (0:Int), (0:Int), (0:Int), (0:Int), (0:Int), (0:Int)] 159)).setRow wr.heap.size #[L[k].cur, L[k].loss, L[k].p0, L[k].p1, L[k].p2, L[k].p3, L[k].p4, L[k].rest]) g v1 _ lg L[k].cur L[k].loss L[k].p0 L[k].p1 L[k].p2 L[k].p3 L[k].p4 L[k].rest (hp1.below hal) (HR.out L[k] (List.getElem_mem hkL)) (by
    have h1 := HLEN.out
    have h2 := encIs_length [(n : Int)] (by intro m hm; rw [List.mem_singleton] at hm; omega)
    have h3 := encR_length FT.ints 8 (L.take k) (fun x hx => rfl) (fun x hx => HR.out x (List.mem_of_mem_take hx))
    rw [List.length_take] at h3
    simp only [List.length_append, List.length_singleton] at h2 ⊢
    have := HN.out.2
    have : min k L.length ≤ 1024 := by omega
    omega)
   have HRAN := Lh hran
   have HAL := Lh hal
   have HPP := Lh (⟨hp1, hk1, ho1⟩ : _ ∧ _ ∧ _)
   have hk0 : (0 : Int) ≤ k := by omega
   have hk1' : (k : Int) < n := by omega
   have hcap : k < cl := by omega
   clear hrows hrows' hran hal hat hp1 hk1 ho1
   go_wp2_with (first
    | (refine wpList_load_mid rfl 159 (.tmp 25) rfl b (off + k * 8) rfl [L[k].cur, L[k].loss, L[k].p0, L[k].p1, L[k].p2, L[k].p3, L[k].p4, L[k].rest] _ HRAN.out Tryz.underlying159 rfl HSZ.out ?_)
    | (refine wpList_store_row rfl 159 (.tmp 7) (.tmp 26) rfl wr.heap.size #[L[k].cur, L[k].loss, L[k].p0, L[k].p1, L[k].p2, L[k].p3, L[k].p4, L[k].rest] rfl rfl 159 #[(0:Int), (0:Int), (0:Int), (0:Int), (0:Int), (0:Int), (0:Int), (0:Int)] HNEW.out HSZ.out rfl HONE.out ?_)
    | (refine wpList_load_row rfl 159 (.tmp 7) rfl wr.heap.size rfl 159 #[L[k].cur, L[k].loss, L[k].p0, L[k].p1, L[k].p2, L[k].p3, L[k].p4, L[k].rest] (0, 0) _ HNEW2.out Tryz.underlying159 rfl HSZ.out ?_)
    | fail)
   refine wd.mono ?_
   clear wd
   rintro e w5 ⟨rfl, hp5⟩
   have HP5 := Lh (PWPost.next HPP.out (PWPost.pre HAL.out hp5))
   clear hp5
   go_wp2_with fail
   exact ⟨⟨k + 1, by omega, by push_cast; rfl, by
    have h := HP5.out
    rw [List.append_assoc, List.append_assoc] at h
    rw [encR_snoc _ hkL]
    exact h⟩, by simp [intOf]; omega⟩
  ·
   obtain rfl : k = n := by omega
   go_wp2_with fail
   go_end0
   exact ⟨rfl, by have h := HPK.out; rwa [List.take_of_length_le (by rw [← HN.out.1]; exact Nat.le_refl _)] at h⟩
end Cam
