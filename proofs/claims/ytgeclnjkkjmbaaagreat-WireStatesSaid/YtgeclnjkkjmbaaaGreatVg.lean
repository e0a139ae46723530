import Derived.Test.YtgeclnjkkjmbaaaGreatVd
import Derived.Test.YtgeclnjkkjmbaaaGreatVc
/- The rows of a state. -/
namespace Cam
open Go Go.RowKit Go.Proofs
set_option linter.unusedVariables false
set_option linter.unusedSimpArgs false
set_option maxRecDepth 100000
set_option maxHeartbeats 1600000
theorem markB_len (b : Bool) : (markB b).length = 1 := by cases b <;> rfl
def encG {α : Type} (b : α → List UInt8) (L : List α) : List UInt8 := (L.map b).flatten
theorem encG_snoc {α : Type} (b : α → List UInt8) {L : List α} {k : Nat} (h : k < L.length) : encG b (L.take (k + 1)) = encG b (L.take k) ++ b L[k] := by
 unfold encG
 rw [List.take_succ_eq_append_getElem h, List.map_append, List.flatten_append]
 simp only [List.map_cons, List.map_nil, List.flatten_cons, List.flatten_nil, List.append_nil]
theorem encG_length {α : Type} (b : α → List UInt8) (m : Nat) : ∀ (L : List α), (∀ x ∈ L, (b x).length ≤ m) → (encG b L).length ≤ L.length * m
 | [], _ => by simp [encG]
 | a :: L, h => by
  have ih := encG_length b m L (fun x hx => h x (by simp [hx]))
  have h1 := h a (by simp)
  have e : encG b (a :: L) = b a ++ encG b L := by simp [encG]
  rw [e, List.length_append, List.length_cons, Nat.add_mul]
  omega
def lwG {α : Type} (b : α → List UInt8) (L : List α) : List UInt8 := if 1024 < L.length then [] else encIs [(L.length : Int)] ++ encG b L
theorem lwG_length {α : Type} (b : α → List UInt8) (m : Nat) (L : List α) (h : ∀ x ∈ L, (b x).length ≤ m) : (lwG b L).length ≤ 10 + 1024 * m := by
 unfold lwG
 split
 ·
  simp
 ·
  have h1 := encG_length b m L h
  have h2 := encIs_length [(L.length : Int)] (by intro n hn; rw [List.mem_singleton] at hn; omega)
  have h3 : L.length * m ≤ 1024 * m := Nat.mul_le_mul_right _ (by omega)
  rw [List.length_append]
  simp at h2
  omega
structure MbT where
 no : Int
 state : Int
 need : Int
deriving DecidableEq
def MbT.ints (c : MbT) : List Int := [c.no, c.state, c.need]
def MbT.vs (c : MbT) : List Value := [c.no, c.state, c.need]
def MbT.bytes (c : MbT) : List UInt8 := encIs c.ints
theorem MbT.len (c : MbT) : c.vs.length = 3 := rfl
theorem MbT.blen (c : MbT) (h : okI c.ints) : c.bytes.length ≤ 200 := by
 have h1 := encIs_length c.ints h
 have h2 : c.ints.length = 3 := rfl
 unfold MbT.bytes
 omega
theorem MbT.one (c : MbT) : ∀ u ∈ c.vs, u.oneCell' = true := by
 intro u hu
 simp only [MbT.vs, List.mem_cons, List.not_mem_nil, or_false] at hu
 rcases hu with rfl | rfl | rfl <;> rfl
theorem elem_mem : Elem Tryz.prog 24 86 3 24 := Elem.mk' (z := .agg #[(0:Int), (0:Int), (0:Int)]) Tryz.underlying24 (by kernel_rfl) rfl (by decide)
theorem mem_sz : (Tryz.prog.info? 86).map (·.size) = some 3 := by kernel_rfl
structure InT where
 no : Int
 cur : Int
 mult : Int
 add : Int
 set : Int
 price : Int
 h0 : Int
 h1 : Int
 h2 : Int
 h3 : Int
 h4 : Int
 h5 : Int
deriving DecidableEq
def InT.ints (c : InT) : List Int := [c.no, c.cur, c.mult, c.add, c.set, c.price, c.h0, c.h1, c.h2, c.h3, c.h4, c.h5]
def InT.vs (c : InT) : List Value := [c.no, c.cur, c.mult, c.add, c.set, c.price, c.h0, c.h1, c.h2, c.h3, c.h4, c.h5]
def InT.bytes (c : InT) : List UInt8 := encIs c.ints
theorem InT.len (c : InT) : c.vs.length = 12 := rfl
theorem InT.blen (c : InT) (h : okI c.ints) : c.bytes.length ≤ 200 := by
 have h1 := encIs_length c.ints h
 have h2 : c.ints.length = 12 := rfl
 unfold InT.bytes
 omega
theorem InT.one (c : InT) : ∀ u ∈ c.vs, u.oneCell' = true := by
 intro u hu
 simp only [InT.vs, List.mem_cons, List.not_mem_nil, or_false] at hu
 rcases hu with rfl | rfl | rfl | rfl | rfl | rfl | rfl | rfl | rfl | rfl | rfl | rfl <;> rfl
theorem elem_ins : Elem Tryz.prog 25 88 12 96 := Elem.mk' (z := .agg #[(0:Int), (0:Int), (0:Int), (0:Int), (0:Int), (0:Int), (0:Int), (0:Int), (0:Int), (0:Int), (0:Int), (0:Int)]) Tryz.underlying25 (by kernel_rfl) rfl (by decide)
theorem ins_sz : (Tryz.prog.info? 88).map (·.size) = some 12 := by kernel_rfl
structure AsT where
 no : Int
 cur : Int
 price : Int
 cut : Int
deriving DecidableEq
def AsT.ints (c : AsT) : List Int := [c.no, c.cur, c.price, c.cut]
def AsT.vs (c : AsT) : List Value := [c.no, c.cur, c.price, c.cut]
def AsT.bytes (c : AsT) : List UInt8 := encIs c.ints
theorem AsT.len (c : AsT) : c.vs.length = 4 := rfl
theorem AsT.blen (c : AsT) (h : okI c.ints) : c.bytes.length ≤ 200 := by
 have h1 := encIs_length c.ints h
 have h2 : c.ints.length = 4 := rfl
 unfold AsT.bytes
 omega
theorem AsT.one (c : AsT) : ∀ u ∈ c.vs, u.oneCell' = true := by
 intro u hu
 simp only [AsT.vs, List.mem_cons, List.not_mem_nil, or_false] at hu
 rcases hu with rfl | rfl | rfl | rfl <;> rfl
theorem elem_ass : Elem Tryz.prog 26 91 4 32 := Elem.mk' (z := .agg #[(0:Int), (0:Int), (0:Int), (0:Int)]) Tryz.underlying26 (by kernel_rfl) rfl (by decide)
theorem ass_sz : (Tryz.prog.info? 91).map (·.size) = some 4 := by kernel_rfl
structure TrT where
 no : Int
 buyer : Int
 seller : Int
 inst : Int
 qty : Int
 price : Int
 off : Bool
deriving DecidableEq
def TrT.ints (c : TrT) : List Int := [c.no, c.buyer, c.seller, c.inst, c.qty, c.price]
def TrT.vs (c : TrT) : List Value := [c.no, c.buyer, c.seller, c.inst, c.qty, c.price, .bool c.off]
def TrT.bytes (c : TrT) : List UInt8 := encIs c.ints ++ markB c.off
theorem TrT.len (c : TrT) : c.vs.length = 7 := rfl
theorem TrT.blen (c : TrT) (h : okI c.ints) : c.bytes.length ≤ 200 := by
 have h1 := encIs_length c.ints h
 have h2 : c.ints.length = 6 := rfl
 unfold TrT.bytes
 rw [List.length_append, markB_len]
 omega
theorem TrT.one (c : TrT) : ∀ u ∈ c.vs, u.oneCell' = true := by
 intro u hu
 simp only [TrT.vs, List.mem_cons, List.not_mem_nil, or_false] at hu
 rcases hu with rfl | rfl | rfl | rfl | rfl | rfl | rfl <;> rfl
theorem elem_trd : Elem Tryz.prog 29 93 7 56 := Elem.mk' (z := .agg #[(0:Int), (0:Int), (0:Int), (0:Int), (0:Int), (0:Int), .bool false]) Tryz.underlying29 (by kernel_rfl) rfl (by decide)
theorem trd_sz : (Tryz.prog.info? 93).map (·.size) = some 7 := by kernel_rfl
structure PoT where
 who : Int
 inst : Int
 qty : Int
 cost : Int
deriving DecidableEq
def PoT.ints (c : PoT) : List Int := [c.who, c.inst, c.qty, c.cost]
def PoT.vs (c : PoT) : List Value := [c.who, c.inst, c.qty, c.cost]
def PoT.bytes (c : PoT) : List UInt8 := encIs c.ints
theorem PoT.len (c : PoT) : c.vs.length = 4 := rfl
theorem PoT.blen (c : PoT) (h : okI c.ints) : c.bytes.length ≤ 200 := by
 have h1 := encIs_length c.ints h
 have h2 : c.ints.length = 4 := rfl
 unfold PoT.bytes
 omega
theorem PoT.one (c : PoT) : ∀ u ∈ c.vs, u.oneCell' = true := by
 intro u hu
 simp only [PoT.vs, List.mem_cons, List.not_mem_nil, or_false] at hu
 rcases hu with rfl | rfl | rfl | rfl <;> rfl
theorem elem_pos : Elem Tryz.prog 30 98 4 32 := Elem.mk' (z := .agg #[(0:Int), (0:Int), (0:Int), (0:Int)]) Tryz.underlying30 (by kernel_rfl) rfl (by decide)
theorem pos_sz : (Tryz.prog.info? 98).map (·.size) = some 4 := by kernel_rfl
structure BaT where
 kind : Int
 who : Int
 cur : Int
 sum : Int
deriving DecidableEq
def BaT.ints (c : BaT) : List Int := [c.kind, c.who, c.cur, c.sum]
def BaT.vs (c : BaT) : List Value := [c.kind, c.who, c.cur, c.sum]
def BaT.bytes (c : BaT) : List UInt8 := encIs c.ints
theorem BaT.len (c : BaT) : c.vs.length = 4 := rfl
theorem BaT.blen (c : BaT) (h : okI c.ints) : c.bytes.length ≤ 200 := by
 have h1 := encIs_length c.ints h
 have h2 : c.ints.length = 4 := rfl
 unfold BaT.bytes
 omega
theorem BaT.one (c : BaT) : ∀ u ∈ c.vs, u.oneCell' = true := by
 intro u hu
 simp only [BaT.vs, List.mem_cons, List.not_mem_nil, or_false] at hu
 rcases hu with rfl | rfl | rfl | rfl <;> rfl
theorem elem_bal : Elem Tryz.prog 33 102 4 32 := Elem.mk' (z := .agg #[(0:Int), (0:Int), (0:Int), (0:Int)]) Tryz.underlying33 (by kernel_rfl) rfl (by decide)
theorem bal_sz : (Tryz.prog.info? 102).map (·.size) = some 4 := by kernel_rfl
structure PlT where
 who : Int
 asset : Int
 units : Int
deriving DecidableEq
def PlT.ints (c : PlT) : List Int := [c.who, c.asset, c.units]
def PlT.vs (c : PlT) : List Value := [c.who, c.asset, c.units]
def PlT.bytes (c : PlT) : List UInt8 := encIs c.ints
theorem PlT.len (c : PlT) : c.vs.length = 3 := rfl
theorem PlT.blen (c : PlT) (h : okI c.ints) : c.bytes.length ≤ 200 := by
 have h1 := encIs_length c.ints h
 have h2 : c.ints.length = 3 := rfl
 unfold PlT.bytes
 omega
theorem PlT.one (c : PlT) : ∀ u ∈ c.vs, u.oneCell' = true := by
 intro u hu
 simp only [PlT.vs, List.mem_cons, List.not_mem_nil, or_false] at hu
 rcases hu with rfl | rfl | rfl <;> rfl
theorem elem_ple : Elem Tryz.prog 36 104 3 24 := Elem.mk' (z := .agg #[(0:Int), (0:Int), (0:Int)]) Tryz.underlying36 (by kernel_rfl) rfl (by decide)
theorem ple_sz : (Tryz.prog.info? 104).map (·.size) = some 3 := by kernel_rfl
structure CaT where
 who : Int
 cur : Int
 amt : Int
 tick : Int
deriving DecidableEq
def CaT.ints (c : CaT) : List Int := [c.who, c.cur, c.amt, c.tick]
def CaT.vs (c : CaT) : List Value := [c.who, c.cur, c.amt, c.tick]
def CaT.bytes (c : CaT) : List UInt8 := encIs c.ints
theorem CaT.len (c : CaT) : c.vs.length = 4 := rfl
theorem CaT.blen (c : CaT) (h : okI c.ints) : c.bytes.length ≤ 200 := by
 have h1 := encIs_length c.ints h
 have h2 : c.ints.length = 4 := rfl
 unfold CaT.bytes
 omega
theorem CaT.one (c : CaT) : ∀ u ∈ c.vs, u.oneCell' = true := by
 intro u hu
 simp only [CaT.vs, List.mem_cons, List.not_mem_nil, or_false] at hu
 rcases hu with rfl | rfl | rfl | rfl <;> rfl
theorem elem_cal : Elem Tryz.prog 37 108 4 32 := Elem.mk' (z := .agg #[(0:Int), (0:Int), (0:Int), (0:Int)]) Tryz.underlying37 (by kernel_rfl) rfl (by decide)
theorem cal_sz : (Tryz.prog.info? 108).map (·.size) = some 4 := by kernel_rfl
structure BiT where
 who : Int
 inst : Int
 frm : Int
 qty : Int
 price : Int
deriving DecidableEq
def BiT.ints (c : BiT) : List Int := [c.who, c.inst, c.frm, c.qty, c.price]
def BiT.vs (c : BiT) : List Value := [c.who, c.inst, c.frm, c.qty, c.price]
def BiT.bytes (c : BiT) : List UInt8 := encIs c.ints
theorem BiT.len (c : BiT) : c.vs.length = 5 := rfl
theorem BiT.blen (c : BiT) (h : okI c.ints) : c.bytes.length ≤ 200 := by
 have h1 := encIs_length c.ints h
 have h2 : c.ints.length = 5 := rfl
 unfold BiT.bytes
 omega
theorem BiT.one (c : BiT) : ∀ u ∈ c.vs, u.oneCell' = true := by
 intro u hu
 simp only [BiT.vs, List.mem_cons, List.not_mem_nil, or_false] at hu
 rcases hu with rfl | rfl | rfl | rfl | rfl <;> rfl
theorem elem_bid : Elem Tryz.prog 38 110 5 40 := Elem.mk' (z := .agg #[(0:Int), (0:Int), (0:Int), (0:Int), (0:Int)]) Tryz.underlying38 (by kernel_rfl) rfl (by decide)
theorem bid_sz : (Tryz.prog.info? 110).map (·.size) = some 5 := by kernel_rfl
variable {tw tb : TypeId} {rs : List Value}
theorem wmem_any (w : World) (g : Nat) (v : Value) (l : List UInt8) (lg : Bool) (gw : Nat) (c : MbT) (hp : PW tw rs w g v l lg) (hgw : HT w gw tb [.pointer (some ⟨g, 0, none⟩)]) (hgn : gw ≠ g ∧ v.ownBlock ≠ some gw) (hr : okI c.ints) (hlen : l.length ≤ 35184372088832) :
  Calls Tryz.prog 118 #[.agg #[c.no, c.state, c.need], .pointer (some ⟨gw, 0, none⟩)] w fun e w' => e = .returned (.tuple #[]) ∧ PWPost tw rs w g v (l ++ c.bytes) lg w' := by
 have hbx := (Below.refl w.heap.size w).alloc (Nat.le_refl _) (.cells #[c.no, c.state, c.need] 86)
 have hc : HT (w.alloc (.cells #[c.no, c.state, c.need] 86)) w.heap.size 86 [c.no, c.state, c.need] := HT.new (w := w)
 have hng : w.heap.size ≠ g := by have := hp.lt; omega
 have hnv : v.ownBlock ≠ some w.heap.size := fun e => by have := (hp.row _ e).2; omega
 have HP0 := Lh (hp.below hbx)
 have HBX := Lh hbx
 have HC0 := Lh hc
 have HGW0 := Lh (hgw.below hbx)
 have HNE0 : Hid (w.heap.size ≠ g ∧ v.ownBlock ≠ some w.heap.size ∧ gw ≠ g ∧ v.ownBlock ≠ some gw) := ⟨hng, hnv, hgn.1, hgn.2⟩
 have HR : Hid (okI [c.no, c.state, c.need]) := hr
 have HLEN := Lh hlen
 show Calls _ _ _ _ fun e w' => e = .returned (.tuple #[]) ∧ PWPost tw rs w g v (l ++ encIs [c.no, c.state, c.need]) lg w'
 clear hbx hc hng hnv hp hr hlen hgw hgn
 go_in
 go_wp2_with fail
 generalize hW : (w.alloc (.cells #[c.no, c.state, c.need] 86)) = W0 at *
 clear hW
 have HK0 : Hid (Kept (fun k => k = g ∨ v.ownBlock = some k) W0 W0) := Kept.refl _ _
 have HO0 : Hid (∀ k, v.ownBlock = some k → v.ownBlock = some k ∨ W0.heap.size ≤ k) := fun k h => .inl h
 generalize hgc : w.heap.size = gc at *
 have HGC : Hid (gc = w.heap.size) := hgc.symm
 clear hgc
 refine wp_region_bl 10 (by kernel_rfl) ?_
 refine uL 0 (some 3) (.pointer (some ⟨g, 0, none⟩)) (BL.cls W0) (fun w hSw => BL.cell hSw (HGW0.out.cell (j := 0) rfl)) ?_
 refine uP 3 [(1, some 4, .pointer (some ⟨g, 0, none⟩)), (2, some 5, .pointer (some ⟨g, 0, none⟩)), (3, some 6, .pointer (some ⟨gc, 0, none⟩))] (BL.cls W0) ?_
 refine uL 4 (some 7) (.int .i64 c.no) (BL.cls W0) (fun w hSw => BL.cell hSw (HC0.out.cell (j := 0) rfl)) ?_
 refine uP 1 [(5, some 8, .pointer (some ⟨gc, 1, none⟩))] (BL.cls W0) ?_
 refine uL 6 (some 9) (.int .i64 c.state) (BL.cls W0) (fun w hSw => BL.cell hSw (HC0.out.cell (j := 1) rfl)) ?_
 refine uP 1 [(7, some 10, .pointer (some ⟨gc, 2, none⟩))] (BL.cls W0) ?_
 refine uL 8 (some 11) (.int .i64 c.need) (BL.cls W0) (fun w hSw => BL.cell hSw (HC0.out.cell (j := 2) rfl)) ?_
 simp only [zq]
 refine uS 9 rfl (fun wA9 hA9 K hK => ?_)
 go_simp
 refine hK.out _ _ (BL (wA9.alloc (.cells #[c.no, c.state, c.need] 3))) (BL.cls' (hA9.alloc (Below.size hA9) _)) (Below.refl _ _) ?_
 clear hK K
 try simp only [zq]
 refine uZ rfl (fun w1 hb1 K hK => ?_)
 go_simp
 have hbl : Below W0.heap.size W0 w1 := (Below.alloc hA9 hA9.size (.cells #[c.no, c.state, c.need] 3)).trans (hb1.mono (by simp; exact Nat.le_succ_of_le hA9.size))
 have hp1 := HP0.out.below hbl
 have his : Is (wA9.alloc (.cells #[c.no, c.state, c.need] 3)) (.slice (some ⟨wA9.heap.size, 0, none⟩) 3 3) [c.no, c.state, c.need] := Is.block (l := [c.no, c.state, c.need]) (heap_new rfl) (Nat.le_refl _) (by simp [maxLen])
 have his1 := his.mono hb1
 refine (WInt_any w1 g v l lg _ _ hp1 his1 (fun w2 hk => his1.kept1 hk (fun _ k hi e => ?_)) (fun n hn => HR.out n (by rw [show [c.no, c.state, c.need] = [] ++ ([c.no, c.state, c.need] ++ []) from rfl]; exact List.mem_append_right _ (List.mem_append_left _ hn))) (by have := HLEN.out; simp; omega)).mono ?_
 ·
  obtain ⟨ad, n, c, hv, rfl⟩ := hi
  injection hv with h5
  injection h5 with h5
  subst h5
  have h6 := hA9.size
  rcases e with e | e'
  ·
   have := HP0.out.lt
   simp only at e
   omega
  ·
   have := (HP0.out.row _ e').2
   simp only at this
   omega
 rintro e wn ⟨rfl, hpo⟩
 have HPO := Lh (hpo.pre hbl)
 clear hbl hp1 his his1 hpo hb1
 refine hK.out _ _ ?_
 clear hK K
 try simp only [zq]
 have hf := PWPost.next ⟨HP0.out, HK0.out, HO0.out⟩ HPO.out
 clear HPO
 go_wp2_with fail
 go_end0
 exact ⟨rfl, PWPost.pre (by rw [← HGC.out]; exact HBX.out) hf⟩
theorem wins_any (w : World) (g : Nat) (v : Value) (l : List UInt8) (lg : Bool) (gw : Nat) (c : InT) (hp : PW tw rs w g v l lg) (hgw : HT w gw tb [.pointer (some ⟨g, 0, none⟩)]) (hgn : gw ≠ g ∧ v.ownBlock ≠ some gw) (hr : okI c.ints) (hlen : l.length ≤ 35184372088832) :
  Calls Tryz.prog 120 #[.agg #[c.no, c.cur, c.mult, c.add, c.set, c.price, c.h0, c.h1, c.h2, c.h3, c.h4, c.h5], .pointer (some ⟨gw, 0, none⟩)] w fun e w' => e = .returned (.tuple #[]) ∧ PWPost tw rs w g v (l ++ c.bytes) lg w' := by
 have hbx := (Below.refl w.heap.size w).alloc (Nat.le_refl _) (.cells #[c.no, c.cur, c.mult, c.add, c.set, c.price, c.h0, c.h1, c.h2, c.h3, c.h4, c.h5] 88)
 have hc : HT (w.alloc (.cells #[c.no, c.cur, c.mult, c.add, c.set, c.price, c.h0, c.h1, c.h2, c.h3, c.h4, c.h5] 88)) w.heap.size 88 [c.no, c.cur, c.mult, c.add, c.set, c.price, c.h0, c.h1, c.h2, c.h3, c.h4, c.h5] := HT.new (w := w)
 have hng : w.heap.size ≠ g := by have := hp.lt; omega
 have hnv : v.ownBlock ≠ some w.heap.size := fun e => by have := (hp.row _ e).2; omega
 have HP0 := Lh (hp.below hbx)
 have HBX := Lh hbx
 have HC0 := Lh hc
 have HGW0 := Lh (hgw.below hbx)
 have HNE0 : Hid (w.heap.size ≠ g ∧ v.ownBlock ≠ some w.heap.size ∧ gw ≠ g ∧ v.ownBlock ≠ some gw) := ⟨hng, hnv, hgn.1, hgn.2⟩
 have HR : Hid (okI [c.no, c.cur, c.mult, c.add, c.set, c.price, c.h0, c.h1, c.h2, c.h3, c.h4, c.h5]) := hr
 have HLEN := Lh hlen
 show Calls _ _ _ _ fun e w' => e = .returned (.tuple #[]) ∧ PWPost tw rs w g v (l ++ encIs [c.no, c.cur, c.mult, c.add, c.set, c.price, c.h0, c.h1, c.h2, c.h3, c.h4, c.h5]) lg w'
 clear hbx hc hng hnv hp hr hlen hgw hgn
 go_in
 go_wp2_with fail
 generalize hW : (w.alloc (.cells #[c.no, c.cur, c.mult, c.add, c.set, c.price, c.h0, c.h1, c.h2, c.h3, c.h4, c.h5] 88)) = W0 at *
 clear hW
 have HK0 : Hid (Kept (fun k => k = g ∨ v.ownBlock = some k) W0 W0) := Kept.refl _ _
 have HO0 : Hid (∀ k, v.ownBlock = some k → v.ownBlock = some k ∨ W0.heap.size ≤ k) := fun k h => .inl h
 generalize hgc : w.heap.size = gc at *
 have HGC : Hid (gc = w.heap.size) := hgc.symm
 clear hgc
 refine wp_region_bl 16 (by kernel_rfl) ?_
 refine uL 0 (some 3) (.pointer (some ⟨g, 0, none⟩)) (BL.cls W0) (fun w hSw => BL.cell hSw (HGW0.out.cell (j := 0) rfl)) ?_
 refine uP 3 [(1, some 4, .pointer (some ⟨g, 0, none⟩)), (2, some 5, .pointer (some ⟨g, 0, none⟩)), (3, some 6, .pointer (some ⟨gc, 0, none⟩))] (BL.cls W0) ?_
 refine uL 4 (some 7) (.int .i64 c.no) (BL.cls W0) (fun w hSw => BL.cell hSw (HC0.out.cell (j := 0) rfl)) ?_
 refine uP 1 [(5, some 8, .pointer (some ⟨gc, 1, none⟩))] (BL.cls W0) ?_
 refine uL 6 (some 9) (.int .i64 c.cur) (BL.cls W0) (fun w hSw => BL.cell hSw (HC0.out.cell (j := 1) rfl)) ?_
 refine uP 1 [(7, some 10, .pointer (some ⟨gc, 2, none⟩))] (BL.cls W0) ?_
 refine uL 8 (some 11) (.int .i64 c.mult) (BL.cls W0) (fun w hSw => BL.cell hSw (HC0.out.cell (j := 2) rfl)) ?_
 refine uP 1 [(9, some 12, .pointer (some ⟨gc, 3, none⟩))] (BL.cls W0) ?_
 refine uL 10 (some 13) (.int .i64 c.add) (BL.cls W0) (fun w hSw => BL.cell hSw (HC0.out.cell (j := 3) rfl)) ?_
 refine uP 1 [(11, some 14, .pointer (some ⟨gc, 4, none⟩))] (BL.cls W0) ?_
 refine uL 12 (some 15) (.int .i64 c.set) (BL.cls W0) (fun w hSw => BL.cell hSw (HC0.out.cell (j := 4) rfl)) ?_
 refine uP 1 [(13, some 16, .pointer (some ⟨gc, 5, none⟩))] (BL.cls W0) ?_
 refine uL 14 (some 17) (.int .i64 c.price) (BL.cls W0) (fun w hSw => BL.cell hSw (HC0.out.cell (j := 5) rfl)) ?_
 simp only [zq]
 refine uS 15 rfl (fun wA15 hA15 K hK => ?_)
 go_simp
 refine hK.out _ _ (BL (wA15.alloc (.cells #[c.no, c.cur, c.mult, c.add, c.set, c.price] 3))) (BL.cls' (hA15.alloc (Below.size hA15) _)) (Below.refl _ _) ?_
 clear hK K
 try simp only [zq]
 refine uZ rfl (fun w1 hb1 K hK => ?_)
 go_simp
 have hbl : Below W0.heap.size W0 w1 := (Below.alloc hA15 hA15.size (.cells #[c.no, c.cur, c.mult, c.add, c.set, c.price] 3)).trans (hb1.mono (by simp; exact Nat.le_succ_of_le hA15.size))
 have hp1 := HP0.out.below hbl
 have his : Is (wA15.alloc (.cells #[c.no, c.cur, c.mult, c.add, c.set, c.price] 3)) (.slice (some ⟨wA15.heap.size, 0, none⟩) 6 6) [c.no, c.cur, c.mult, c.add, c.set, c.price] := Is.block (l := [c.no, c.cur, c.mult, c.add, c.set, c.price]) (heap_new rfl) (Nat.le_refl _) (by simp [maxLen])
 have his1 := his.mono hb1
 refine (WInt_any w1 g v l lg _ _ hp1 his1 (fun w2 hk => his1.kept1 hk (fun _ k hi e => ?_)) (fun n hn => HR.out n (by rw [show [c.no, c.cur, c.mult, c.add, c.set, c.price, c.h0, c.h1, c.h2, c.h3, c.h4, c.h5] = [] ++ ([c.no, c.cur, c.mult, c.add, c.set, c.price] ++ [c.h0, c.h1, c.h2, c.h3, c.h4, c.h5]) from rfl]; exact List.mem_append_right _ (List.mem_append_left _ hn))) (by have := HLEN.out; simp; omega)).mono ?_
 ·
  obtain ⟨ad, n, c, hv, rfl⟩ := hi
  injection hv with h5
  injection h5 with h5
  subst h5
  have h6 := hA15.size
  rcases e with e | e'
  ·
   have := HP0.out.lt
   simp only at e
   omega
  ·
   have := (HP0.out.row _ e').2
   simp only at this
   omega
 rintro e wn ⟨rfl, hpo⟩
 have HPO := Lh (hpo.pre hbl)
 clear hbl hp1 his his1 hpo hb1
 refine hK.out _ _ ?_
 clear hK K
 try simp only [zq]
 have hf := PWPost.next ⟨HP0.out, HK0.out, HO0.out⟩ HPO.out
 clear HPO
 obtain ⟨v1, hp, hk, ho⟩ := hf
 have HP1 := Lh hp
 have HK1 := Lh hk
 have HO1 := Lh ho
 have hcW : HT wn gc 88 [c.no, c.cur, c.mult, c.add, c.set, c.price, c.h0, c.h1, c.h2, c.h3, c.h4, c.h5] := HT.keptH HC0.out hk (fun e => e.elim (fun e => HNE0.out.1 e) (fun e => HNE0.out.2.1 e))
 have hgW : HT wn gw tb [.pointer (some ⟨g, 0, none⟩)] := HT.keptH HGW0.out hk (fun e => e.elim (fun e => HNE0.out.2.2.1 e) (fun e => HNE0.out.2.2.2 e))
 have HC1 := Lh hcW
 have HGW1 := Lh hgW
 have HNE1 : Hid (gc ≠ g ∧ v1.ownBlock ≠ some gc ∧ gw ≠ g ∧ v1.ownBlock ≠ some gw) := ⟨HNE0.out.1, fun e => by rcases ho gc e with h | h; exact HNE0.out.2.1 h; have := HC0.out.lt; omega, HNE0.out.2.2.1, fun e => by rcases ho gw e with h | h; exact HNE0.out.2.2.2 h; have := HGW0.out.lt; omega⟩
 clear hp hk ho hcW hgW
 generalize wn = W1 at *
 go_wp2_with fail
 refine wp_region_bl 5 (by kernel_rfl) ?_
 refine uL 0 (some 20) (.pointer (some ⟨g, 0, none⟩)) (BL.cls W1) (fun w hSw => BL.cell hSw (HGW1.out.cell (j := 0) rfl)) ?_
 refine uP 3 [(1, some 21, .pointer (some ⟨g, 0, none⟩)), (2, some 22, .pointer (some ⟨g, 0, none⟩)), (3, some 23, .pointer (some ⟨gc, 6, none⟩))] (BL.cls W1) ?_
 refine uG 4 (some 24) (.slice (some ⟨gc, 6, none⟩) 6 6) (BL.cls W1) ?_
 simp only [zq]
 refine uZ rfl (fun w1 hb1 K hK => ?_)
 go_simp
 have hp1 := HP1.out.below hb1
 have his1 := (is_mid (ys := [c.no, c.cur, c.mult, c.add, c.set, c.price]) (zs := [c.h0, c.h1, c.h2, c.h3, c.h4, c.h5]) (us := []) HC1.out (by simp)).mono hb1
 refine (WInt_any w1 g v1 (l ++ encIs [c.no, c.cur, c.mult, c.add, c.set, c.price]) lg _ _ hp1 his1 (fun w2 hk => his1.kept1 hk (fun _ k hi e => ?_)) (fun n hn => HR.out n (by rw [show [c.no, c.cur, c.mult, c.add, c.set, c.price, c.h0, c.h1, c.h2, c.h3, c.h4, c.h5] = [c.no, c.cur, c.mult, c.add, c.set, c.price] ++ ([c.h0, c.h1, c.h2, c.h3, c.h4, c.h5] ++ []) from rfl]; exact List.mem_append_right _ (List.mem_append_left _ hn))) (by have h1 := HLEN.out; have h2 := encIs_length [c.no, c.cur, c.mult, c.add, c.set, c.price] (fun n hn => HR.out n (by rw [show [c.no, c.cur, c.mult, c.add, c.set, c.price, c.h0, c.h1, c.h2, c.h3, c.h4, c.h5] = [] ++ ([c.no, c.cur, c.mult, c.add, c.set, c.price] ++ [c.h0, c.h1, c.h2, c.h3, c.h4, c.h5]) from rfl]; exact List.mem_append_right _ (List.mem_append_left _ hn))); simp at h1 h2 ⊢; omega)).mono ?_
 ·
  obtain ⟨ad, n, c, hv, rfl⟩ := hi
  injection hv with h5
  injection h5 with h5
  subst h5
  rcases e with e | e'
  ·
   exact HNE1.out.1 e
  ·
   exact HNE1.out.2.1 e'
 rintro e wn ⟨rfl, hpo⟩
 have HPO := Lh (hpo.pre hb1)
 clear hp1 his1 hpo hb1
 refine hK.out _ _ ?_
 clear hK K
 try simp only [zq]
 have hf := PWPost.next ⟨HP1.out, HK1.out, HO1.out⟩ HPO.out
 have e : l ++ encIs [c.no, c.cur, c.mult, c.add, c.set, c.price] ++ encIs [c.h0, c.h1, c.h2, c.h3, c.h4, c.h5] = l ++ encIs [c.no, c.cur, c.mult, c.add, c.set, c.price, c.h0, c.h1, c.h2, c.h3, c.h4, c.h5] := by rw [List.append_assoc]; simp [encIs]
 rw [e] at hf
 clear HPO
 go_wp2_with fail
 go_end0
 exact ⟨rfl, PWPost.pre (by rw [← HGC.out]; exact HBX.out) hf⟩
theorem wass_any (w : World) (g : Nat) (v : Value) (l : List UInt8) (lg : Bool) (gw : Nat) (c : AsT) (hp : PW tw rs w g v l lg) (hgw : HT w gw tb [.pointer (some ⟨g, 0, none⟩)]) (hgn : gw ≠ g ∧ v.ownBlock ≠ some gw) (hr : okI c.ints) (hlen : l.length ≤ 35184372088832) :
  Calls Tryz.prog 122 #[.agg #[c.no, c.cur, c.price, c.cut], .pointer (some ⟨gw, 0, none⟩)] w fun e w' => e = .returned (.tuple #[]) ∧ PWPost tw rs w g v (l ++ c.bytes) lg w' := by
 have hbx := (Below.refl w.heap.size w).alloc (Nat.le_refl _) (.cells #[c.no, c.cur, c.price, c.cut] 91)
 have hc : HT (w.alloc (.cells #[c.no, c.cur, c.price, c.cut] 91)) w.heap.size 91 [c.no, c.cur, c.price, c.cut] := HT.new (w := w)
 have hng : w.heap.size ≠ g := by have := hp.lt; omega
 have hnv : v.ownBlock ≠ some w.heap.size := fun e => by have := (hp.row _ e).2; omega
 have HP0 := Lh (hp.below hbx)
 have HBX := Lh hbx
 have HC0 := Lh hc
 have HGW0 := Lh (hgw.below hbx)
 have HNE0 : Hid (w.heap.size ≠ g ∧ v.ownBlock ≠ some w.heap.size ∧ gw ≠ g ∧ v.ownBlock ≠ some gw) := ⟨hng, hnv, hgn.1, hgn.2⟩
 have HR : Hid (okI [c.no, c.cur, c.price, c.cut]) := hr
 have HLEN := Lh hlen
 show Calls _ _ _ _ fun e w' => e = .returned (.tuple #[]) ∧ PWPost tw rs w g v (l ++ encIs [c.no, c.cur, c.price, c.cut]) lg w'
 clear hbx hc hng hnv hp hr hlen hgw hgn
 go_in
 go_wp2_with fail
 generalize hW : (w.alloc (.cells #[c.no, c.cur, c.price, c.cut] 91)) = W0 at *
 clear hW
 have HK0 : Hid (Kept (fun k => k = g ∨ v.ownBlock = some k) W0 W0) := Kept.refl _ _
 have HO0 : Hid (∀ k, v.ownBlock = some k → v.ownBlock = some k ∨ W0.heap.size ≤ k) := fun k h => .inl h
 generalize hgc : w.heap.size = gc at *
 have HGC : Hid (gc = w.heap.size) := hgc.symm
 clear hgc
 refine wp_region_bl 12 (by kernel_rfl) ?_
 refine uL 0 (some 3) (.pointer (some ⟨g, 0, none⟩)) (BL.cls W0) (fun w hSw => BL.cell hSw (HGW0.out.cell (j := 0) rfl)) ?_
 refine uP 3 [(1, some 4, .pointer (some ⟨g, 0, none⟩)), (2, some 5, .pointer (some ⟨g, 0, none⟩)), (3, some 6, .pointer (some ⟨gc, 0, none⟩))] (BL.cls W0) ?_
 refine uL 4 (some 7) (.int .i64 c.no) (BL.cls W0) (fun w hSw => BL.cell hSw (HC0.out.cell (j := 0) rfl)) ?_
 refine uP 1 [(5, some 8, .pointer (some ⟨gc, 1, none⟩))] (BL.cls W0) ?_
 refine uL 6 (some 9) (.int .i64 c.cur) (BL.cls W0) (fun w hSw => BL.cell hSw (HC0.out.cell (j := 1) rfl)) ?_
 refine uP 1 [(7, some 10, .pointer (some ⟨gc, 2, none⟩))] (BL.cls W0) ?_
 refine uL 8 (some 11) (.int .i64 c.price) (BL.cls W0) (fun w hSw => BL.cell hSw (HC0.out.cell (j := 2) rfl)) ?_
 refine uP 1 [(9, some 12, .pointer (some ⟨gc, 3, none⟩))] (BL.cls W0) ?_
 refine uL 10 (some 13) (.int .i64 c.cut) (BL.cls W0) (fun w hSw => BL.cell hSw (HC0.out.cell (j := 3) rfl)) ?_
 simp only [zq]
 refine uS 11 rfl (fun wA11 hA11 K hK => ?_)
 go_simp
 refine hK.out _ _ (BL (wA11.alloc (.cells #[c.no, c.cur, c.price, c.cut] 3))) (BL.cls' (hA11.alloc (Below.size hA11) _)) (Below.refl _ _) ?_
 clear hK K
 try simp only [zq]
 refine uZ rfl (fun w1 hb1 K hK => ?_)
 go_simp
 have hbl : Below W0.heap.size W0 w1 := (Below.alloc hA11 hA11.size (.cells #[c.no, c.cur, c.price, c.cut] 3)).trans (hb1.mono (by simp; exact Nat.le_succ_of_le hA11.size))
 have hp1 := HP0.out.below hbl
 have his : Is (wA11.alloc (.cells #[c.no, c.cur, c.price, c.cut] 3)) (.slice (some ⟨wA11.heap.size, 0, none⟩) 4 4) [c.no, c.cur, c.price, c.cut] := Is.block (l := [c.no, c.cur, c.price, c.cut]) (heap_new rfl) (Nat.le_refl _) (by simp [maxLen])
 have his1 := his.mono hb1
 refine (WInt_any w1 g v l lg _ _ hp1 his1 (fun w2 hk => his1.kept1 hk (fun _ k hi e => ?_)) (fun n hn => HR.out n (by rw [show [c.no, c.cur, c.price, c.cut] = [] ++ ([c.no, c.cur, c.price, c.cut] ++ []) from rfl]; exact List.mem_append_right _ (List.mem_append_left _ hn))) (by have := HLEN.out; simp; omega)).mono ?_
 ·
  obtain ⟨ad, n, c, hv, rfl⟩ := hi
  injection hv with h5
  injection h5 with h5
  subst h5
  have h6 := hA11.size
  rcases e with e | e'
  ·
   have := HP0.out.lt
   simp only at e
   omega
  ·
   have := (HP0.out.row _ e').2
   simp only at this
   omega
 rintro e wn ⟨rfl, hpo⟩
 have HPO := Lh (hpo.pre hbl)
 clear hbl hp1 his his1 hpo hb1
 refine hK.out _ _ ?_
 clear hK K
 try simp only [zq]
 have hf := PWPost.next ⟨HP0.out, HK0.out, HO0.out⟩ HPO.out
 clear HPO
 go_wp2_with fail
 go_end0
 exact ⟨rfl, PWPost.pre (by rw [← HGC.out]; exact HBX.out) hf⟩
theorem wtrd_any (w : World) (g : Nat) (v : Value) (l : List UInt8) (lg : Bool) (gw : Nat) (c : TrT) (hp : PW tw rs w g v l lg) (hgw : HT w gw tb [.pointer (some ⟨g, 0, none⟩)]) (hgn : gw ≠ g ∧ v.ownBlock ≠ some gw) (hr : okI c.ints) (hlen : l.length ≤ 35184372088832) :
  Calls Tryz.prog 124 #[.agg #[c.no, c.buyer, c.seller, c.inst, c.qty, c.price, .bool c.off], .pointer (some ⟨gw, 0, none⟩)] w fun e w' => e = .returned (.tuple #[]) ∧ PWPost tw rs w g v (l ++ c.bytes) lg w' := by
 have hbx := (Below.refl w.heap.size w).alloc (Nat.le_refl _) (.cells #[c.no, c.buyer, c.seller, c.inst, c.qty, c.price, .bool c.off] 93)
 have hc : HT (w.alloc (.cells #[c.no, c.buyer, c.seller, c.inst, c.qty, c.price, .bool c.off] 93)) w.heap.size 93 [c.no, c.buyer, c.seller, c.inst, c.qty, c.price, .bool c.off] := HT.new (w := w)
 have hng : w.heap.size ≠ g := by have := hp.lt; omega
 have hnv : v.ownBlock ≠ some w.heap.size := fun e => by have := (hp.row _ e).2; omega
 have HP0 := Lh (hp.below hbx)
 have HBX := Lh hbx
 have HC0 := Lh hc
 have HGW0 := Lh (hgw.below hbx)
 have HNE0 : Hid (w.heap.size ≠ g ∧ v.ownBlock ≠ some w.heap.size ∧ gw ≠ g ∧ v.ownBlock ≠ some gw) := ⟨hng, hnv, hgn.1, hgn.2⟩
 have HR : Hid (okI [c.no, c.buyer, c.seller, c.inst, c.qty, c.price]) := hr
 have HLEN := Lh hlen
 show Calls _ _ _ _ fun e w' => e = .returned (.tuple #[]) ∧ PWPost tw rs w g v (l ++ (encIs [c.no, c.buyer, c.seller, c.inst, c.qty, c.price] ++ markB c.off)) lg w'
 clear hbx hc hng hnv hp hr hlen hgw hgn
 go_in
 go_wp2_with fail
 generalize hW : (w.alloc (.cells #[c.no, c.buyer, c.seller, c.inst, c.qty, c.price, .bool c.off] 93)) = W0 at *
 clear hW
 have HK0 : Hid (Kept (fun k => k = g ∨ v.ownBlock = some k) W0 W0) := Kept.refl _ _
 have HO0 : Hid (∀ k, v.ownBlock = some k → v.ownBlock = some k ∨ W0.heap.size ≤ k) := fun k h => .inl h
 generalize hgc : w.heap.size = gc at *
 have HGC : Hid (gc = w.heap.size) := hgc.symm
 clear hgc
 refine wp_region_bl 16 (by kernel_rfl) ?_
 refine uL 0 (some 3) (.pointer (some ⟨g, 0, none⟩)) (BL.cls W0) (fun w hSw => BL.cell hSw (HGW0.out.cell (j := 0) rfl)) ?_
 refine uP 3 [(1, some 4, .pointer (some ⟨g, 0, none⟩)), (2, some 5, .pointer (some ⟨g, 0, none⟩)), (3, some 6, .pointer (some ⟨gc, 0, none⟩))] (BL.cls W0) ?_
 refine uL 4 (some 7) (.int .i64 c.no) (BL.cls W0) (fun w hSw => BL.cell hSw (HC0.out.cell (j := 0) rfl)) ?_
 refine uP 1 [(5, some 8, .pointer (some ⟨gc, 1, none⟩))] (BL.cls W0) ?_
 refine uL 6 (some 9) (.int .i64 c.buyer) (BL.cls W0) (fun w hSw => BL.cell hSw (HC0.out.cell (j := 1) rfl)) ?_
 refine uP 1 [(7, some 10, .pointer (some ⟨gc, 2, none⟩))] (BL.cls W0) ?_
 refine uL 8 (some 11) (.int .i64 c.seller) (BL.cls W0) (fun w hSw => BL.cell hSw (HC0.out.cell (j := 2) rfl)) ?_
 refine uP 1 [(9, some 12, .pointer (some ⟨gc, 3, none⟩))] (BL.cls W0) ?_
 refine uL 10 (some 13) (.int .i64 c.inst) (BL.cls W0) (fun w hSw => BL.cell hSw (HC0.out.cell (j := 3) rfl)) ?_
 refine uP 1 [(11, some 14, .pointer (some ⟨gc, 4, none⟩))] (BL.cls W0) ?_
 refine uL 12 (some 15) (.int .i64 c.qty) (BL.cls W0) (fun w hSw => BL.cell hSw (HC0.out.cell (j := 4) rfl)) ?_
 refine uP 1 [(13, some 16, .pointer (some ⟨gc, 5, none⟩))] (BL.cls W0) ?_
 refine uL 14 (some 17) (.int .i64 c.price) (BL.cls W0) (fun w hSw => BL.cell hSw (HC0.out.cell (j := 5) rfl)) ?_
 simp only [zq]
 refine uS 15 rfl (fun wA15 hA15 K hK => ?_)
 go_simp
 refine hK.out _ _ (BL (wA15.alloc (.cells #[c.no, c.buyer, c.seller, c.inst, c.qty, c.price] 3))) (BL.cls' (hA15.alloc (Below.size hA15) _)) (Below.refl _ _) ?_
 clear hK K
 try simp only [zq]
 refine uZ rfl (fun w1 hb1 K hK => ?_)
 go_simp
 have hbl : Below W0.heap.size W0 w1 := (Below.alloc hA15 hA15.size (.cells #[c.no, c.buyer, c.seller, c.inst, c.qty, c.price] 3)).trans (hb1.mono (by simp; exact Nat.le_succ_of_le hA15.size))
 have hp1 := HP0.out.below hbl
 have his : Is (wA15.alloc (.cells #[c.no, c.buyer, c.seller, c.inst, c.qty, c.price] 3)) (.slice (some ⟨wA15.heap.size, 0, none⟩) 6 6) [c.no, c.buyer, c.seller, c.inst, c.qty, c.price] := Is.block (l := [c.no, c.buyer, c.seller, c.inst, c.qty, c.price]) (heap_new rfl) (Nat.le_refl _) (by simp [maxLen])
 have his1 := his.mono hb1
 refine (WInt_any w1 g v l lg _ _ hp1 his1 (fun w2 hk => his1.kept1 hk (fun _ k hi e => ?_)) (fun n hn => HR.out n (by rw [show [c.no, c.buyer, c.seller, c.inst, c.qty, c.price] = [] ++ ([c.no, c.buyer, c.seller, c.inst, c.qty, c.price] ++ []) from rfl]; exact List.mem_append_right _ (List.mem_append_left _ hn))) (by have := HLEN.out; simp; omega)).mono ?_
 ·
  obtain ⟨ad, n, c, hv, rfl⟩ := hi
  injection hv with h5
  injection h5 with h5
  subst h5
  have h6 := hA15.size
  rcases e with e | e'
  ·
   have := HP0.out.lt
   simp only at e
   omega
  ·
   have := (HP0.out.row _ e').2
   simp only at this
   omega
 rintro e wn ⟨rfl, hpo⟩
 have HPO := Lh (hpo.pre hbl)
 clear hbl hp1 his his1 hpo hb1
 refine hK.out _ _ ?_
 clear hK K
 try simp only [zq]
 have hf := PWPost.next ⟨HP0.out, HK0.out, HO0.out⟩ HPO.out
 clear HPO
 obtain ⟨v1, hp, hk, ho⟩ := hf
 have HP1 := Lh hp
 have HK1 := Lh hk
 have HO1 := Lh ho
 have hcW : HT wn gc 93 [c.no, c.buyer, c.seller, c.inst, c.qty, c.price, .bool c.off] := HT.keptH HC0.out hk (fun e => e.elim (fun e => HNE0.out.1 e) (fun e => HNE0.out.2.1 e))
 have hgW : HT wn gw tb [.pointer (some ⟨g, 0, none⟩)] := HT.keptH HGW0.out hk (fun e => e.elim (fun e => HNE0.out.2.2.1 e) (fun e => HNE0.out.2.2.2 e))
 have HC1 := Lh hcW
 have HGW1 := Lh hgW
 have HNE1 : Hid (gc ≠ g ∧ v1.ownBlock ≠ some gc ∧ gw ≠ g ∧ v1.ownBlock ≠ some gw) := ⟨HNE0.out.1, fun e => by rcases ho gc e with h | h; exact HNE0.out.2.1 h; have := HC0.out.lt; omega, HNE0.out.2.2.1, fun e => by rcases ho gw e with h | h; exact HNE0.out.2.2.2 h; have := HGW0.out.lt; omega⟩
 clear hp hk ho hcW hgW
 generalize wn = W1 at *
 go_wp2_with fail
 refine wp_region_bl 5 (by kernel_rfl) ?_
 refine uL 0 (some 20) (.pointer (some ⟨g, 0, none⟩)) (BL.cls W1) (fun w hSw => BL.cell hSw (HGW1.out.cell (j := 0) rfl)) ?_
 refine uP 3 [(1, some 21, .pointer (some ⟨g, 0, none⟩)), (2, some 22, .pointer (some ⟨g, 0, none⟩)), (3, some 23, .pointer (some ⟨gc, 6, none⟩))] (BL.cls W1) ?_
 refine uL 4 (some 24) (.bool c.off) (BL.cls W1) (fun w hSw => BL.cell hSw (HC1.out.cell (j := 6) rfl)) ?_
 simp only [zq]
 refine uZ rfl (fun w1 hb1 K hK => ?_)
 go_simp
 have hp1 := HP1.out.below hb1
 refine (WMark_any w1 g v1 (l ++ encIs [c.no, c.buyer, c.seller, c.inst, c.qty, c.price]) lg c.off hp1 (by have h1 := HLEN.out; have h2 := encIs_length [c.no, c.buyer, c.seller, c.inst, c.qty, c.price] (fun n hn => HR.out n (by rw [show [c.no, c.buyer, c.seller, c.inst, c.qty, c.price] = [] ++ ([c.no, c.buyer, c.seller, c.inst, c.qty, c.price] ++ []) from rfl]; exact List.mem_append_right _ (List.mem_append_left _ hn))); simp at h1 h2 ⊢; omega)).mono ?_
 rintro e wn ⟨rfl, hpo⟩
 have HPO := Lh (hpo.pre hb1)
 clear hp1 hpo hb1
 refine hK.out _ _ ?_
 clear hK K
 try simp only [zq]
 have hf := PWPost.next ⟨HP1.out, HK1.out, HO1.out⟩ HPO.out
 rw [List.append_assoc] at hf
 clear HPO
 go_wp2_with fail
 go_end0
 exact ⟨rfl, PWPost.pre (by rw [← HGC.out]; exact HBX.out) hf⟩
theorem wpos_any (w : World) (g : Nat) (v : Value) (l : List UInt8) (lg : Bool) (gw : Nat) (c : PoT) (hp : PW tw rs w g v l lg) (hgw : HT w gw tb [.pointer (some ⟨g, 0, none⟩)]) (hgn : gw ≠ g ∧ v.ownBlock ≠ some gw) (hr : okI c.ints) (hlen : l.length ≤ 35184372088832) :
  Calls Tryz.prog 127 #[.agg #[c.who, c.inst, c.qty, c.cost], .pointer (some ⟨gw, 0, none⟩)] w fun e w' => e = .returned (.tuple #[]) ∧ PWPost tw rs w g v (l ++ c.bytes) lg w' := by
 have hbx := (Below.refl w.heap.size w).alloc (Nat.le_refl _) (.cells #[c.who, c.inst, c.qty, c.cost] 98)
 have hc : HT (w.alloc (.cells #[c.who, c.inst, c.qty, c.cost] 98)) w.heap.size 98 [c.who, c.inst, c.qty, c.cost] := HT.new (w := w)
 have hng : w.heap.size ≠ g := by have := hp.lt; omega
 have hnv : v.ownBlock ≠ some w.heap.size := fun e => by have := (hp.row _ e).2; omega
 have HP0 := Lh (hp.below hbx)
 have HBX := Lh hbx
 have HC0 := Lh hc
 have HGW0 := Lh (hgw.below hbx)
 have HNE0 : Hid (w.heap.size ≠ g ∧ v.ownBlock ≠ some w.heap.size ∧ gw ≠ g ∧ v.ownBlock ≠ some gw) := ⟨hng, hnv, hgn.1, hgn.2⟩
 have HR : Hid (okI [c.who, c.inst, c.qty, c.cost]) := hr
 have HLEN := Lh hlen
 show Calls _ _ _ _ fun e w' => e = .returned (.tuple #[]) ∧ PWPost tw rs w g v (l ++ encIs [c.who, c.inst, c.qty, c.cost]) lg w'
 clear hbx hc hng hnv hp hr hlen hgw hgn
 go_in
 go_wp2_with fail
 generalize hW : (w.alloc (.cells #[c.who, c.inst, c.qty, c.cost] 98)) = W0 at *
 clear hW
 have HK0 : Hid (Kept (fun k => k = g ∨ v.ownBlock = some k) W0 W0) := Kept.refl _ _
 have HO0 : Hid (∀ k, v.ownBlock = some k → v.ownBlock = some k ∨ W0.heap.size ≤ k) := fun k h => .inl h
 generalize hgc : w.heap.size = gc at *
 have HGC : Hid (gc = w.heap.size) := hgc.symm
 clear hgc
 refine wp_region_bl 14 (by kernel_rfl) ?_
 refine uL 0 (some 3) (.pointer (some ⟨g, 0, none⟩)) (BL.cls W0) (fun w hSw => BL.cell hSw (HGW0.out.cell (j := 0) rfl)) ?_
 refine uP 4 [(1, some 4, .pointer (some ⟨g, 0, none⟩)), (2, some 5, .pointer (some ⟨g, 0, none⟩)), (3, some 6, .pointer (some ⟨gc, 0, none⟩)), (4, some 7, .pointer (some ⟨gc, 0, none⟩))] (BL.cls W0) ?_
 refine uL 5 (some 8) (.int .i64 c.who) (BL.cls W0) (fun w hSw => BL.cell hSw (HC0.out.cell (j := 0) rfl)) ?_
 refine uP 2 [(6, some 9, .pointer (some ⟨gc, 0, none⟩)), (7, some 10, .pointer (some ⟨gc, 1, none⟩))] (BL.cls W0) ?_
 refine uL 8 (some 11) (.int .i64 c.inst) (BL.cls W0) (fun w hSw => BL.cell hSw (HC0.out.cell (j := 1) rfl)) ?_
 refine uP 1 [(9, some 12, .pointer (some ⟨gc, 2, none⟩))] (BL.cls W0) ?_
 refine uL 10 (some 13) (.int .i64 c.qty) (BL.cls W0) (fun w hSw => BL.cell hSw (HC0.out.cell (j := 2) rfl)) ?_
 refine uP 1 [(11, some 14, .pointer (some ⟨gc, 3, none⟩))] (BL.cls W0) ?_
 refine uL 12 (some 15) (.int .i64 c.cost) (BL.cls W0) (fun w hSw => BL.cell hSw (HC0.out.cell (j := 3) rfl)) ?_
 simp only [zq]
 refine uS 13 rfl (fun wA13 hA13 K hK => ?_)
 go_simp
 refine hK.out _ _ (BL (wA13.alloc (.cells #[c.who, c.inst, c.qty, c.cost] 3))) (BL.cls' (hA13.alloc (Below.size hA13) _)) (Below.refl _ _) ?_
 clear hK K
 try simp only [zq]
 refine uZ rfl (fun w1 hb1 K hK => ?_)
 go_simp
 have hbl : Below W0.heap.size W0 w1 := (Below.alloc hA13 hA13.size (.cells #[c.who, c.inst, c.qty, c.cost] 3)).trans (hb1.mono (by simp; exact Nat.le_succ_of_le hA13.size))
 have hp1 := HP0.out.below hbl
 have his : Is (wA13.alloc (.cells #[c.who, c.inst, c.qty, c.cost] 3)) (.slice (some ⟨wA13.heap.size, 0, none⟩) 4 4) [c.who, c.inst, c.qty, c.cost] := Is.block (l := [c.who, c.inst, c.qty, c.cost]) (heap_new rfl) (Nat.le_refl _) (by simp [maxLen])
 have his1 := his.mono hb1
 refine (WInt_any w1 g v l lg _ _ hp1 his1 (fun w2 hk => his1.kept1 hk (fun _ k hi e => ?_)) (fun n hn => HR.out n (by rw [show [c.who, c.inst, c.qty, c.cost] = [] ++ ([c.who, c.inst, c.qty, c.cost] ++ []) from rfl]; exact List.mem_append_right _ (List.mem_append_left _ hn))) (by have := HLEN.out; simp; omega)).mono ?_
 ·
  obtain ⟨ad, n, c, hv, rfl⟩ := hi
  injection hv with h5
  injection h5 with h5
  subst h5
  have h6 := hA13.size
  rcases e with e | e'
  ·
   have := HP0.out.lt
   simp only at e
   omega
  ·
   have := (HP0.out.row _ e').2
   simp only at this
   omega
 rintro e wn ⟨rfl, hpo⟩
 have HPO := Lh (hpo.pre hbl)
 clear hbl hp1 his his1 hpo hb1
 refine hK.out _ _ ?_
 clear hK K
 try simp only [zq]
 have hf := PWPost.next ⟨HP0.out, HK0.out, HO0.out⟩ HPO.out
 clear HPO
 go_wp2_with fail
 go_end0
 exact ⟨rfl, PWPost.pre (by rw [← HGC.out]; exact HBX.out) hf⟩
theorem wbal_any (w : World) (g : Nat) (v : Value) (l : List UInt8) (lg : Bool) (gw : Nat) (c : BaT) (hp : PW tw rs w g v l lg) (hgw : HT w gw tb [.pointer (some ⟨g, 0, none⟩)]) (hgn : gw ≠ g ∧ v.ownBlock ≠ some gw) (hr : okI c.ints) (hlen : l.length ≤ 35184372088832) :
  Calls Tryz.prog 59 #[.agg #[c.kind, c.who, c.cur, c.sum], .pointer (some ⟨gw, 0, none⟩)] w fun e w' => e = .returned (.tuple #[]) ∧ PWPost tw rs w g v (l ++ c.bytes) lg w' := by
 have hbx := (Below.refl w.heap.size w).alloc (Nat.le_refl _) (.cells #[c.kind, c.who, c.cur, c.sum] 102)
 have hc : HT (w.alloc (.cells #[c.kind, c.who, c.cur, c.sum] 102)) w.heap.size 102 [c.kind, c.who, c.cur, c.sum] := HT.new (w := w)
 have hng : w.heap.size ≠ g := by have := hp.lt; omega
 have hnv : v.ownBlock ≠ some w.heap.size := fun e => by have := (hp.row _ e).2; omega
 have HP0 := Lh (hp.below hbx)
 have HBX := Lh hbx
 have HC0 := Lh hc
 have HGW0 := Lh (hgw.below hbx)
 have HNE0 : Hid (w.heap.size ≠ g ∧ v.ownBlock ≠ some w.heap.size ∧ gw ≠ g ∧ v.ownBlock ≠ some gw) := ⟨hng, hnv, hgn.1, hgn.2⟩
 have HR : Hid (okI [c.kind, c.who, c.cur, c.sum]) := hr
 have HLEN := Lh hlen
 show Calls _ _ _ _ fun e w' => e = .returned (.tuple #[]) ∧ PWPost tw rs w g v (l ++ encIs [c.kind, c.who, c.cur, c.sum]) lg w'
 clear hbx hc hng hnv hp hr hlen hgw hgn
 go_in
 go_wp2_with fail
 generalize hW : (w.alloc (.cells #[c.kind, c.who, c.cur, c.sum] 102)) = W0 at *
 clear hW
 have HK0 : Hid (Kept (fun k => k = g ∨ v.ownBlock = some k) W0 W0) := Kept.refl _ _
 have HO0 : Hid (∀ k, v.ownBlock = some k → v.ownBlock = some k ∨ W0.heap.size ≤ k) := fun k h => .inl h
 generalize hgc : w.heap.size = gc at *
 have HGC : Hid (gc = w.heap.size) := hgc.symm
 clear hgc
 refine wp_region_bl 15 (by kernel_rfl) ?_
 refine uL 0 (some 3) (.pointer (some ⟨g, 0, none⟩)) (BL.cls W0) (fun w hSw => BL.cell hSw (HGW0.out.cell (j := 0) rfl)) ?_
 refine uP 4 [(1, some 4, .pointer (some ⟨g, 0, none⟩)), (2, some 5, .pointer (some ⟨g, 0, none⟩)), (3, some 6, .pointer (some ⟨gc, 0, none⟩)), (4, some 7, .pointer (some ⟨gc, 0, none⟩))] (BL.cls W0) ?_
 refine uL 5 (some 8) (.int .i64 c.kind) (BL.cls W0) (fun w hSw => BL.cell hSw (HC0.out.cell (j := 0) rfl)) ?_
 refine uP 2 [(6, some 9, .pointer (some ⟨gc, 0, none⟩)), (7, some 10, .pointer (some ⟨gc, 1, none⟩))] (BL.cls W0) ?_
 refine uL 8 (some 11) (.int .i64 c.who) (BL.cls W0) (fun w hSw => BL.cell hSw (HC0.out.cell (j := 1) rfl)) ?_
 refine uP 2 [(9, some 12, .pointer (some ⟨gc, 0, none⟩)), (10, some 13, .pointer (some ⟨gc, 2, none⟩))] (BL.cls W0) ?_
 refine uL 11 (some 14) (.int .i64 c.cur) (BL.cls W0) (fun w hSw => BL.cell hSw (HC0.out.cell (j := 2) rfl)) ?_
 refine uP 1 [(12, some 15, .pointer (some ⟨gc, 3, none⟩))] (BL.cls W0) ?_
 refine uL 13 (some 16) (.int .i64 c.sum) (BL.cls W0) (fun w hSw => BL.cell hSw (HC0.out.cell (j := 3) rfl)) ?_
 simp only [zq]
 refine uS 14 rfl (fun wA14 hA14 K hK => ?_)
 go_simp
 refine hK.out _ _ (BL (wA14.alloc (.cells #[c.kind, c.who, c.cur, c.sum] 3))) (BL.cls' (hA14.alloc (Below.size hA14) _)) (Below.refl _ _) ?_
 clear hK K
 try simp only [zq]
 refine uZ rfl (fun w1 hb1 K hK => ?_)
 go_simp
 have hbl : Below W0.heap.size W0 w1 := (Below.alloc hA14 hA14.size (.cells #[c.kind, c.who, c.cur, c.sum] 3)).trans (hb1.mono (by simp; exact Nat.le_succ_of_le hA14.size))
 have hp1 := HP0.out.below hbl
 have his : Is (wA14.alloc (.cells #[c.kind, c.who, c.cur, c.sum] 3)) (.slice (some ⟨wA14.heap.size, 0, none⟩) 4 4) [c.kind, c.who, c.cur, c.sum] := Is.block (l := [c.kind, c.who, c.cur, c.sum]) (heap_new rfl) (Nat.le_refl _) (by simp [maxLen])
 have his1 := his.mono hb1
 refine (WInt_any w1 g v l lg _ _ hp1 his1 (fun w2 hk => his1.kept1 hk (fun _ k hi e => ?_)) (fun n hn => HR.out n (by rw [show [c.kind, c.who, c.cur, c.sum] = [] ++ ([c.kind, c.who, c.cur, c.sum] ++ []) from rfl]; exact List.mem_append_right _ (List.mem_append_left _ hn))) (by have := HLEN.out; simp; omega)).mono ?_
 ·
  obtain ⟨ad, n, c, hv, rfl⟩ := hi
  injection hv with h5
  injection h5 with h5
  subst h5
  have h6 := hA14.size
  rcases e with e | e'
  ·
   have := HP0.out.lt
   simp only at e
   omega
  ·
   have := (HP0.out.row _ e').2
   simp only at this
   omega
 rintro e wn ⟨rfl, hpo⟩
 have HPO := Lh (hpo.pre hbl)
 clear hbl hp1 his his1 hpo hb1
 refine hK.out _ _ ?_
 clear hK K
 try simp only [zq]
 have hf := PWPost.next ⟨HP0.out, HK0.out, HO0.out⟩ HPO.out
 clear HPO
 go_wp2_with fail
 go_end0
 exact ⟨rfl, PWPost.pre (by rw [← HGC.out]; exact HBX.out) hf⟩
theorem wple_any (w : World) (g : Nat) (v : Value) (l : List UInt8) (lg : Bool) (gw : Nat) (c : PlT) (hp : PW tw rs w g v l lg) (hgw : HT w gw tb [.pointer (some ⟨g, 0, none⟩)]) (hgn : gw ≠ g ∧ v.ownBlock ≠ some gw) (hr : okI c.ints) (hlen : l.length ≤ 35184372088832) :
  Calls Tryz.prog 61 #[.agg #[c.who, c.asset, c.units], .pointer (some ⟨gw, 0, none⟩)] w fun e w' => e = .returned (.tuple #[]) ∧ PWPost tw rs w g v (l ++ c.bytes) lg w' := by
 have hbx := (Below.refl w.heap.size w).alloc (Nat.le_refl _) (.cells #[c.who, c.asset, c.units] 104)
 have hc : HT (w.alloc (.cells #[c.who, c.asset, c.units] 104)) w.heap.size 104 [c.who, c.asset, c.units] := HT.new (w := w)
 have hng : w.heap.size ≠ g := by have := hp.lt; omega
 have hnv : v.ownBlock ≠ some w.heap.size := fun e => by have := (hp.row _ e).2; omega
 have HP0 := Lh (hp.below hbx)
 have HBX := Lh hbx
 have HC0 := Lh hc
 have HGW0 := Lh (hgw.below hbx)
 have HNE0 : Hid (w.heap.size ≠ g ∧ v.ownBlock ≠ some w.heap.size ∧ gw ≠ g ∧ v.ownBlock ≠ some gw) := ⟨hng, hnv, hgn.1, hgn.2⟩
 have HR : Hid (okI [c.who, c.asset, c.units]) := hr
 have HLEN := Lh hlen
 show Calls _ _ _ _ fun e w' => e = .returned (.tuple #[]) ∧ PWPost tw rs w g v (l ++ encIs [c.who, c.asset, c.units]) lg w'
 clear hbx hc hng hnv hp hr hlen hgw hgn
 go_in
 go_wp2_with fail
 generalize hW : (w.alloc (.cells #[c.who, c.asset, c.units] 104)) = W0 at *
 clear hW
 have HK0 : Hid (Kept (fun k => k = g ∨ v.ownBlock = some k) W0 W0) := Kept.refl _ _
 have HO0 : Hid (∀ k, v.ownBlock = some k → v.ownBlock = some k ∨ W0.heap.size ≤ k) := fun k h => .inl h
 generalize hgc : w.heap.size = gc at *
 have HGC : Hid (gc = w.heap.size) := hgc.symm
 clear hgc
 refine wp_region_bl 10 (by kernel_rfl) ?_
 refine uL 0 (some 3) (.pointer (some ⟨g, 0, none⟩)) (BL.cls W0) (fun w hSw => BL.cell hSw (HGW0.out.cell (j := 0) rfl)) ?_
 refine uP 3 [(1, some 4, .pointer (some ⟨g, 0, none⟩)), (2, some 5, .pointer (some ⟨g, 0, none⟩)), (3, some 6, .pointer (some ⟨gc, 0, none⟩))] (BL.cls W0) ?_
 refine uL 4 (some 7) (.int .i64 c.who) (BL.cls W0) (fun w hSw => BL.cell hSw (HC0.out.cell (j := 0) rfl)) ?_
 refine uP 1 [(5, some 8, .pointer (some ⟨gc, 1, none⟩))] (BL.cls W0) ?_
 refine uL 6 (some 9) (.int .i64 c.asset) (BL.cls W0) (fun w hSw => BL.cell hSw (HC0.out.cell (j := 1) rfl)) ?_
 refine uP 1 [(7, some 10, .pointer (some ⟨gc, 2, none⟩))] (BL.cls W0) ?_
 refine uL 8 (some 11) (.int .i64 c.units) (BL.cls W0) (fun w hSw => BL.cell hSw (HC0.out.cell (j := 2) rfl)) ?_
 simp only [zq]
 refine uS 9 rfl (fun wA9 hA9 K hK => ?_)
 go_simp
 refine hK.out _ _ (BL (wA9.alloc (.cells #[c.who, c.asset, c.units] 3))) (BL.cls' (hA9.alloc (Below.size hA9) _)) (Below.refl _ _) ?_
 clear hK K
 try simp only [zq]
 refine uZ rfl (fun w1 hb1 K hK => ?_)
 go_simp
 have hbl : Below W0.heap.size W0 w1 := (Below.alloc hA9 hA9.size (.cells #[c.who, c.asset, c.units] 3)).trans (hb1.mono (by simp; exact Nat.le_succ_of_le hA9.size))
 have hp1 := HP0.out.below hbl
 have his : Is (wA9.alloc (.cells #[c.who, c.asset, c.units] 3)) (.slice (some ⟨wA9.heap.size, 0, none⟩) 3 3) [c.who, c.asset, c.units] := Is.block (l := [c.who, c.asset, c.units]) (heap_new rfl) (Nat.le_refl _) (by simp [maxLen])
 have his1 := his.mono hb1
 refine (WInt_any w1 g v l lg _ _ hp1 his1 (fun w2 hk => his1.kept1 hk (fun _ k hi e => ?_)) (fun n hn => HR.out n (by rw [show [c.who, c.asset, c.units] = [] ++ ([c.who, c.asset, c.units] ++ []) from rfl]; exact List.mem_append_right _ (List.mem_append_left _ hn))) (by have := HLEN.out; simp; omega)).mono ?_
 ·
  obtain ⟨ad, n, c, hv, rfl⟩ := hi
  injection hv with h5
  injection h5 with h5
  subst h5
  have h6 := hA9.size
  rcases e with e | e'
  ·
   have := HP0.out.lt
   simp only at e
   omega
  ·
   have := (HP0.out.row _ e').2
   simp only at this
   omega
 rintro e wn ⟨rfl, hpo⟩
 have HPO := Lh (hpo.pre hbl)
 clear hbl hp1 his his1 hpo hb1
 refine hK.out _ _ ?_
 clear hK K
 try simp only [zq]
 have hf := PWPost.next ⟨HP0.out, HK0.out, HO0.out⟩ HPO.out
 clear HPO
 go_wp2_with fail
 go_end0
 exact ⟨rfl, PWPost.pre (by rw [← HGC.out]; exact HBX.out) hf⟩
theorem wcal_any (w : World) (g : Nat) (v : Value) (l : List UInt8) (lg : Bool) (gw : Nat) (c : CaT) (hp : PW tw rs w g v l lg) (hgw : HT w gw tb [.pointer (some ⟨g, 0, none⟩)]) (hgn : gw ≠ g ∧ v.ownBlock ≠ some gw) (hr : okI c.ints) (hlen : l.length ≤ 35184372088832) :
  Calls Tryz.prog 63 #[.agg #[c.who, c.cur, c.amt, c.tick], .pointer (some ⟨gw, 0, none⟩)] w fun e w' => e = .returned (.tuple #[]) ∧ PWPost tw rs w g v (l ++ c.bytes) lg w' := by
 have hbx := (Below.refl w.heap.size w).alloc (Nat.le_refl _) (.cells #[c.who, c.cur, c.amt, c.tick] 108)
 have hc : HT (w.alloc (.cells #[c.who, c.cur, c.amt, c.tick] 108)) w.heap.size 108 [c.who, c.cur, c.amt, c.tick] := HT.new (w := w)
 have hng : w.heap.size ≠ g := by have := hp.lt; omega
 have hnv : v.ownBlock ≠ some w.heap.size := fun e => by have := (hp.row _ e).2; omega
 have HP0 := Lh (hp.below hbx)
 have HBX := Lh hbx
 have HC0 := Lh hc
 have HGW0 := Lh (hgw.below hbx)
 have HNE0 : Hid (w.heap.size ≠ g ∧ v.ownBlock ≠ some w.heap.size ∧ gw ≠ g ∧ v.ownBlock ≠ some gw) := ⟨hng, hnv, hgn.1, hgn.2⟩
 have HR : Hid (okI [c.who, c.cur, c.amt, c.tick]) := hr
 have HLEN := Lh hlen
 show Calls _ _ _ _ fun e w' => e = .returned (.tuple #[]) ∧ PWPost tw rs w g v (l ++ encIs [c.who, c.cur, c.amt, c.tick]) lg w'
 clear hbx hc hng hnv hp hr hlen hgw hgn
 go_in
 go_wp2_with fail
 generalize hW : (w.alloc (.cells #[c.who, c.cur, c.amt, c.tick] 108)) = W0 at *
 clear hW
 have HK0 : Hid (Kept (fun k => k = g ∨ v.ownBlock = some k) W0 W0) := Kept.refl _ _
 have HO0 : Hid (∀ k, v.ownBlock = some k → v.ownBlock = some k ∨ W0.heap.size ≤ k) := fun k h => .inl h
 generalize hgc : w.heap.size = gc at *
 have HGC : Hid (gc = w.heap.size) := hgc.symm
 clear hgc
 refine wp_region_bl 15 (by kernel_rfl) ?_
 refine uL 0 (some 3) (.pointer (some ⟨g, 0, none⟩)) (BL.cls W0) (fun w hSw => BL.cell hSw (HGW0.out.cell (j := 0) rfl)) ?_
 refine uP 4 [(1, some 4, .pointer (some ⟨g, 0, none⟩)), (2, some 5, .pointer (some ⟨g, 0, none⟩)), (3, some 6, .pointer (some ⟨gc, 0, none⟩)), (4, some 7, .pointer (some ⟨gc, 0, none⟩))] (BL.cls W0) ?_
 refine uL 5 (some 8) (.int .i64 c.who) (BL.cls W0) (fun w hSw => BL.cell hSw (HC0.out.cell (j := 0) rfl)) ?_
 refine uP 2 [(6, some 9, .pointer (some ⟨gc, 0, none⟩)), (7, some 10, .pointer (some ⟨gc, 1, none⟩))] (BL.cls W0) ?_
 refine uL 8 (some 11) (.int .i64 c.cur) (BL.cls W0) (fun w hSw => BL.cell hSw (HC0.out.cell (j := 1) rfl)) ?_
 refine uP 2 [(9, some 12, .pointer (some ⟨gc, 0, none⟩)), (10, some 13, .pointer (some ⟨gc, 2, none⟩))] (BL.cls W0) ?_
 refine uL 11 (some 14) (.int .i64 c.amt) (BL.cls W0) (fun w hSw => BL.cell hSw (HC0.out.cell (j := 2) rfl)) ?_
 refine uP 1 [(12, some 15, .pointer (some ⟨gc, 3, none⟩))] (BL.cls W0) ?_
 refine uL 13 (some 16) (.int .i64 c.tick) (BL.cls W0) (fun w hSw => BL.cell hSw (HC0.out.cell (j := 3) rfl)) ?_
 simp only [zq]
 refine uS 14 rfl (fun wA14 hA14 K hK => ?_)
 go_simp
 refine hK.out _ _ (BL (wA14.alloc (.cells #[c.who, c.cur, c.amt, c.tick] 3))) (BL.cls' (hA14.alloc (Below.size hA14) _)) (Below.refl _ _) ?_
 clear hK K
 try simp only [zq]
 refine uZ rfl (fun w1 hb1 K hK => ?_)
 go_simp
 have hbl : Below W0.heap.size W0 w1 := (Below.alloc hA14 hA14.size (.cells #[c.who, c.cur, c.amt, c.tick] 3)).trans (hb1.mono (by simp; exact Nat.le_succ_of_le hA14.size))
 have hp1 := HP0.out.below hbl
 have his : Is (wA14.alloc (.cells #[c.who, c.cur, c.amt, c.tick] 3)) (.slice (some ⟨wA14.heap.size, 0, none⟩) 4 4) [c.who, c.cur, c.amt, c.tick] := Is.block (l := [c.who, c.cur, c.amt, c.tick]) (heap_new rfl) (Nat.le_refl _) (by simp [maxLen])
 have his1 := his.mono hb1
 refine (WInt_any w1 g v l lg _ _ hp1 his1 (fun w2 hk => his1.kept1 hk (fun _ k hi e => ?_)) (fun n hn => HR.out n (by rw [show [c.who, c.cur, c.amt, c.tick] = [] ++ ([c.who, c.cur, c.amt, c.tick] ++ []) from rfl]; exact List.mem_append_right _ (List.mem_append_left _ hn))) (by have := HLEN.out; simp; omega)).mono ?_
 ·
  obtain ⟨ad, n, c, hv, rfl⟩ := hi
  injection hv with h5
  injection h5 with h5
  subst h5
  have h6 := hA14.size
  rcases e with e | e'
  ·
   have := HP0.out.lt
   simp only at e
   omega
  ·
   have := (HP0.out.row _ e').2
   simp only at this
   omega
 rintro e wn ⟨rfl, hpo⟩
 have HPO := Lh (hpo.pre hbl)
 clear hbl hp1 his his1 hpo hb1
 refine hK.out _ _ ?_
 clear hK K
 try simp only [zq]
 have hf := PWPost.next ⟨HP0.out, HK0.out, HO0.out⟩ HPO.out
 clear HPO
 go_wp2_with fail
 go_end0
 exact ⟨rfl, PWPost.pre (by rw [← HGC.out]; exact HBX.out) hf⟩
theorem wbid_any (w : World) (g : Nat) (v : Value) (l : List UInt8) (lg : Bool) (gw : Nat) (c : BiT) (hp : PW tw rs w g v l lg) (hgw : HT w gw tb [.pointer (some ⟨g, 0, none⟩)]) (hgn : gw ≠ g ∧ v.ownBlock ≠ some gw) (hr : okI c.ints) (hlen : l.length ≤ 35184372088832) :
  Calls Tryz.prog 65 #[.agg #[c.who, c.inst, c.frm, c.qty, c.price], .pointer (some ⟨gw, 0, none⟩)] w fun e w' => e = .returned (.tuple #[]) ∧ PWPost tw rs w g v (l ++ c.bytes) lg w' := by
 have hbx := (Below.refl w.heap.size w).alloc (Nat.le_refl _) (.cells #[c.who, c.inst, c.frm, c.qty, c.price] 110)
 have hc : HT (w.alloc (.cells #[c.who, c.inst, c.frm, c.qty, c.price] 110)) w.heap.size 110 [c.who, c.inst, c.frm, c.qty, c.price] := HT.new (w := w)
 have hng : w.heap.size ≠ g := by have := hp.lt; omega
 have hnv : v.ownBlock ≠ some w.heap.size := fun e => by have := (hp.row _ e).2; omega
 have HP0 := Lh (hp.below hbx)
 have HBX := Lh hbx
 have HC0 := Lh hc
 have HGW0 := Lh (hgw.below hbx)
 have HNE0 : Hid (w.heap.size ≠ g ∧ v.ownBlock ≠ some w.heap.size ∧ gw ≠ g ∧ v.ownBlock ≠ some gw) := ⟨hng, hnv, hgn.1, hgn.2⟩
 have HR : Hid (okI [c.who, c.inst, c.frm, c.qty, c.price]) := hr
 have HLEN := Lh hlen
 show Calls _ _ _ _ fun e w' => e = .returned (.tuple #[]) ∧ PWPost tw rs w g v (l ++ encIs [c.who, c.inst, c.frm, c.qty, c.price]) lg w'
 clear hbx hc hng hnv hp hr hlen hgw hgn
 go_in
 go_wp2_with fail
 generalize hW : (w.alloc (.cells #[c.who, c.inst, c.frm, c.qty, c.price] 110)) = W0 at *
 clear hW
 have HK0 : Hid (Kept (fun k => k = g ∨ v.ownBlock = some k) W0 W0) := Kept.refl _ _
 have HO0 : Hid (∀ k, v.ownBlock = some k → v.ownBlock = some k ∨ W0.heap.size ≤ k) := fun k h => .inl h
 generalize hgc : w.heap.size = gc at *
 have HGC : Hid (gc = w.heap.size) := hgc.symm
 clear hgc
 refine wp_region_bl 16 (by kernel_rfl) ?_
 refine uL 0 (some 3) (.pointer (some ⟨g, 0, none⟩)) (BL.cls W0) (fun w hSw => BL.cell hSw (HGW0.out.cell (j := 0) rfl)) ?_
 refine uP 4 [(1, some 4, .pointer (some ⟨g, 0, none⟩)), (2, some 5, .pointer (some ⟨g, 0, none⟩)), (3, some 6, .pointer (some ⟨gc, 0, none⟩)), (4, some 7, .pointer (some ⟨gc, 0, none⟩))] (BL.cls W0) ?_
 refine uL 5 (some 8) (.int .i64 c.who) (BL.cls W0) (fun w hSw => BL.cell hSw (HC0.out.cell (j := 0) rfl)) ?_
 refine uP 2 [(6, some 9, .pointer (some ⟨gc, 0, none⟩)), (7, some 10, .pointer (some ⟨gc, 1, none⟩))] (BL.cls W0) ?_
 refine uL 8 (some 11) (.int .i64 c.inst) (BL.cls W0) (fun w hSw => BL.cell hSw (HC0.out.cell (j := 1) rfl)) ?_
 refine uP 1 [(9, some 12, .pointer (some ⟨gc, 2, none⟩))] (BL.cls W0) ?_
 refine uL 10 (some 13) (.int .i64 c.frm) (BL.cls W0) (fun w hSw => BL.cell hSw (HC0.out.cell (j := 2) rfl)) ?_
 refine uP 1 [(11, some 14, .pointer (some ⟨gc, 3, none⟩))] (BL.cls W0) ?_
 refine uL 12 (some 15) (.int .i64 c.qty) (BL.cls W0) (fun w hSw => BL.cell hSw (HC0.out.cell (j := 3) rfl)) ?_
 refine uP 1 [(13, some 16, .pointer (some ⟨gc, 4, none⟩))] (BL.cls W0) ?_
 refine uL 14 (some 17) (.int .i64 c.price) (BL.cls W0) (fun w hSw => BL.cell hSw (HC0.out.cell (j := 4) rfl)) ?_
 simp only [zq]
 refine uS 15 rfl (fun wA15 hA15 K hK => ?_)
 go_simp
 refine hK.out _ _ (BL (wA15.alloc (.cells #[c.who, c.inst, c.frm, c.qty, c.price] 3))) (BL.cls' (hA15.alloc (Below.size hA15) _)) (Below.refl _ _) ?_
 clear hK K
 try simp only [zq]
 refine uZ rfl (fun w1 hb1 K hK => ?_)
 go_simp
 have hbl : Below W0.heap.size W0 w1 := (Below.alloc hA15 hA15.size (.cells #[c.who, c.inst, c.frm, c.qty, c.price] 3)).trans (hb1.mono (by simp; exact Nat.le_succ_of_le hA15.size))
 have hp1 := HP0.out.below hbl
 have his : Is (wA15.alloc (.cells #[c.who, c.inst, c.frm, c.qty, c.price] 3)) (.slice (some ⟨wA15.heap.size, 0, none⟩) 5 5) [c.who, c.inst, c.frm, c.qty, c.price] := Is.block (l := [c.who, c.inst, c.frm, c.qty, c.price]) (heap_new rfl) (Nat.le_refl _) (by simp [maxLen])
 have his1 := his.mono hb1
 refine (WInt_any w1 g v l lg _ _ hp1 his1 (fun w2 hk => his1.kept1 hk (fun _ k hi e => ?_)) (fun n hn => HR.out n (by rw [show [c.who, c.inst, c.frm, c.qty, c.price] = [] ++ ([c.who, c.inst, c.frm, c.qty, c.price] ++ []) from rfl]; exact List.mem_append_right _ (List.mem_append_left _ hn))) (by have := HLEN.out; simp; omega)).mono ?_
 ·
  obtain ⟨ad, n, c, hv, rfl⟩ := hi
  injection hv with h5
  injection h5 with h5
  subst h5
  have h6 := hA15.size
  rcases e with e | e'
  ·
   have := HP0.out.lt
   simp only at e
   omega
  ·
   have := (HP0.out.row _ e').2
   simp only at this
   omega
 rintro e wn ⟨rfl, hpo⟩
 have HPO := Lh (hpo.pre hbl)
 clear hbl hp1 his his1 hpo hb1
 refine hK.out _ _ ?_
 clear hK K
 try simp only [zq]
 have hf := PWPost.next ⟨HP0.out, HK0.out, HO0.out⟩ HPO.out
 clear HPO
 go_wp2_with fail
 go_end0
 exact ⟨rfl, PWPost.pre (by rw [← HGC.out]; exact HBX.out) hf⟩
end Cam
