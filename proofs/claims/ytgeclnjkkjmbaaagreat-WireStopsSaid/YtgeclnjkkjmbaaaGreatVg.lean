import Derived.Test.YtgeclnjkkjmbaaaGreatVd
import Derived.Test.YtgeclnjkkjmbaaaGreatVc
/- The rows of a state. -/
namespace Cam
open Go Go.RowKit Go.Proofs

theorem markB_len (b : Bool) : (markB b).length = 1 := by cases b <;> rfl
/-- rows, written -/
def encG {α : Type} (b : α → List UInt8) (L : List α) : List UInt8 := (L.map b).flatten
theorem encG_snoc {α : Type} (b : α → List UInt8) {L : List α} {k : Nat} (h : k < L.length) : encG b (L.take (k + 1)) = encG b (L.take k) ++ b L[k] := by
  unfold encG
  rw [List.take_succ_eq_append_getElem h, List.map_append, List.flatten_append]
  simp only [List.map_cons, List.map_nil, List.flatten_cons, List.flatten_nil, List.append_nil]
theorem encG_length {α : Type} (b : α → List UInt8) (m : Nat) : ∀ (L : List α), (∀ x ∈ L, (b x).length ≤ m) → (encG b L).length ≤ L.length * m
  | [], _ => by simp [encG]
  | a :: L, h => by
    have ih := encG_length b m L (fun x hx => h x (by simp [hx]))
    have h1 := h a (by simp)
    have e : encG b (a :: L) = b a ++ encG b L := by simp [encG]
    rw [e, List.length_append, List.length_cons, Nat.add_mul]
    omega
/-- a list of no more than 1024, written -/
def lwG {α : Type} (b : α → List UInt8) (L : List α) : List UInt8 := if 1024 < L.length then [] else encIs [(L.length : Int)] ++ encG b L
theorem lwG_length {α : Type} (b : α → List UInt8) (m : Nat) (L : List α) (h : ∀ x ∈ L, (b x).length ≤ m) : (lwG b L).length ≤ 10 + 1024 * m := by
  unfold lwG
  split
  · simp
  · have h1 := encG_length b m L h
    have h2 := encIs_length [(L.length : Int)] (by intro n hn; rw [List.mem_singleton] at hn; omega)
    have h3 : L.length * m ≤ 1024 * m := Nat.mul_le_mul_right _ (by omega)
    rw [List.length_append]
    simp at h2
    omega

structure MbT where
  no : Int
  state : Int
  need : Int
deriving DecidableEq
def MbT.ints (c : MbT) : List Int := [c.no, c.state, c.need]
def MbT.vs (c : MbT) : List Value := [.int .i64 c.no, .int .i64 c.state, .int .i64 c.need]
def MbT.bytes (c : MbT) : List UInt8 := encIs c.ints
theorem MbT.len (c : MbT) : c.vs.length = 3 := rfl
theorem MbT.blen (c : MbT) (h : okI c.ints) : c.bytes.length ≤ 200 := by
  have h1 := encIs_length c.ints h
  have h2 : c.ints.length = 3 := rfl
  unfold MbT.bytes
  omega
theorem MbT.one (c : MbT) : ∀ u ∈ c.vs, u.oneCell' = true := by
  intro u hu
  simp only [MbT.vs, List.mem_cons, List.not_mem_nil, or_false] at hu
  rcases hu with rfl | rfl | rfl <;> rfl
theorem elem_mem : Elem Tryz.prog 24 86 3 24 := Elem.mk' (z := .agg #[.int .i64 0, .int .i64 0, .int .i64 0]) Tryz.underlying24 (by kernel_rfl) rfl (by decide)
theorem mem_sz : (Tryz.prog.info? 86).map (·.size) = some 3 := by kernel_rfl

structure InT where
  no : Int
  cur : Int
  mult : Int
  add : Int
  set : Int
  price : Int
  h0 : Int
  h1 : Int
  h2 : Int
  h3 : Int
  h4 : Int
  h5 : Int
deriving DecidableEq
def InT.ints (c : InT) : List Int := [c.no, c.cur, c.mult, c.add, c.set, c.price, c.h0, c.h1, c.h2, c.h3, c.h4, c.h5]
def InT.vs (c : InT) : List Value := [.int .i64 c.no, .int .i64 c.cur, .int .i64 c.mult, .int .i64 c.add, .int .i64 c.set, .int .i64 c.price, .int .i64 c.h0, .int .i64 c.h1, .int .i64 c.h2, .int .i64 c.h3, .int .i64 c.h4, .int .i64 c.h5]
def InT.bytes (c : InT) : List UInt8 := encIs c.ints
theorem InT.len (c : InT) : c.vs.length = 12 := rfl
theorem InT.blen (c : InT) (h : okI c.ints) : c.bytes.length ≤ 200 := by
  have h1 := encIs_length c.ints h
  have h2 : c.ints.length = 12 := rfl
  unfold InT.bytes
  omega
theorem InT.one (c : InT) : ∀ u ∈ c.vs, u.oneCell' = true := by
  intro u hu
  simp only [InT.vs, List.mem_cons, List.not_mem_nil, or_false] at hu
  rcases hu with rfl | rfl | rfl | rfl | rfl | rfl | rfl | rfl | rfl | rfl | rfl | rfl <;> rfl
theorem elem_ins : Elem Tryz.prog 25 88 12 96 := Elem.mk' (z := .agg #[.int .i64 0, .int .i64 0, .int .i64 0, .int .i64 0, .int .i64 0, .int .i64 0, .int .i64 0, .int .i64 0, .int .i64 0, .int .i64 0, .int .i64 0, .int .i64 0]) Tryz.underlying25 (by kernel_rfl) rfl (by decide)
theorem ins_sz : (Tryz.prog.info? 88).map (·.size) = some 12 := by kernel_rfl

structure AsT where
  no : Int
  cur : Int
  price : Int
  cut : Int
deriving DecidableEq
def AsT.ints (c : AsT) : List Int := [c.no, c.cur, c.price, c.cut]
def AsT.vs (c : AsT) : List Value := [.int .i64 c.no, .int .i64 c.cur, .int .i64 c.price, .int .i64 c.cut]
def AsT.bytes (c : AsT) : List UInt8 := encIs c.ints
theorem AsT.len (c : AsT) : c.vs.length = 4 := rfl
theorem AsT.blen (c : AsT) (h : okI c.ints) : c.bytes.length ≤ 200 := by
  have h1 := encIs_length c.ints h
  have h2 : c.ints.length = 4 := rfl
  unfold AsT.bytes
  omega
theorem AsT.one (c : AsT) : ∀ u ∈ c.vs, u.oneCell' = true := by
  intro u hu
  simp only [AsT.vs, List.mem_cons, List.not_mem_nil, or_false] at hu
  rcases hu with rfl | rfl | rfl | rfl <;> rfl
theorem elem_ass : Elem Tryz.prog 26 91 4 32 := Elem.mk' (z := .agg #[.int .i64 0, .int .i64 0, .int .i64 0, .int .i64 0]) Tryz.underlying26 (by kernel_rfl) rfl (by decide)
theorem ass_sz : (Tryz.prog.info? 91).map (·.size) = some 4 := by kernel_rfl

structure TrT where
  no : Int
  buyer : Int
  seller : Int
  inst : Int
  qty : Int
  price : Int
  off : Bool
deriving DecidableEq
def TrT.ints (c : TrT) : List Int := [c.no, c.buyer, c.seller, c.inst, c.qty, c.price]
def TrT.vs (c : TrT) : List Value := [.int .i64 c.no, .int .i64 c.buyer, .int .i64 c.seller, .int .i64 c.inst, .int .i64 c.qty, .int .i64 c.price, .bool c.off]
def TrT.bytes (c : TrT) : List UInt8 := encIs c.ints ++ markB c.off
theorem TrT.len (c : TrT) : c.vs.length = 7 := rfl
theorem TrT.blen (c : TrT) (h : okI c.ints) : c.bytes.length ≤ 200 := by
  have h1 := encIs_length c.ints h
  have h2 : c.ints.length = 6 := rfl
  unfold TrT.bytes
  rw [List.length_append, markB_len]
  omega
theorem TrT.one (c : TrT) : ∀ u ∈ c.vs, u.oneCell' = true := by
  intro u hu
  simp only [TrT.vs, List.mem_cons, List.not_mem_nil, or_false] at hu
  rcases hu with rfl | rfl | rfl | rfl | rfl | rfl | rfl <;> rfl
theorem elem_trd : Elem Tryz.prog 29 93 7 56 := Elem.mk' (z := .agg #[.int .i64 0, .int .i64 0, .int .i64 0, .int .i64 0, .int .i64 0, .int .i64 0, .bool false]) Tryz.underlying29 (by kernel_rfl) rfl (by decide)
theorem trd_sz : (Tryz.prog.info? 93).map (·.size) = some 7 := by kernel_rfl

structure PoT where
  who : Int
  inst : Int
  qty : Int
  cost : Int
deriving DecidableEq
def PoT.ints (c : PoT) : List Int := [c.who, c.inst, c.qty, c.cost]
def PoT.vs (c : PoT) : List Value := [.int .i64 c.who, .int .i64 c.inst, .int .i64 c.qty, .int .i64 c.cost]
def PoT.bytes (c : PoT) : List UInt8 := encIs c.ints
theorem PoT.len (c : PoT) : c.vs.length = 4 := rfl
theorem PoT.blen (c : PoT) (h : okI c.ints) : c.bytes.length ≤ 200 := by
  have h1 := encIs_length c.ints h
  have h2 : c.ints.length = 4 := rfl
  unfold PoT.bytes
  omega
theorem PoT.one (c : PoT) : ∀ u ∈ c.vs, u.oneCell' = true := by
  intro u hu
  simp only [PoT.vs, List.mem_cons, List.not_mem_nil, or_false] at hu
  rcases hu with rfl | rfl | rfl | rfl <;> rfl
theorem elem_pos : Elem Tryz.prog 30 98 4 32 := Elem.mk' (z := .agg #[.int .i64 0, .int .i64 0, .int .i64 0, .int .i64 0]) Tryz.underlying30 (by kernel_rfl) rfl (by decide)
theorem pos_sz : (Tryz.prog.info? 98).map (·.size) = some 4 := by kernel_rfl

structure BaT where
  kind : Int
  who : Int
  cur : Int
  sum : Int
deriving DecidableEq
def BaT.ints (c : BaT) : List Int := [c.kind, c.who, c.cur, c.sum]
def BaT.vs (c : BaT) : List Value := [.int .i64 c.kind, .int .i64 c.who, .int .i64 c.cur, .int .i64 c.sum]
def BaT.bytes (c : BaT) : List UInt8 := encIs c.ints
theorem BaT.len (c : BaT) : c.vs.length = 4 := rfl
theorem BaT.blen (c : BaT) (h : okI c.ints) : c.bytes.length ≤ 200 := by
  have h1 := encIs_length c.ints h
  have h2 : c.ints.length = 4 := rfl
  unfold BaT.bytes
  omega
theorem BaT.one (c : BaT) : ∀ u ∈ c.vs, u.oneCell' = true := by
  intro u hu
  simp only [BaT.vs, List.mem_cons, List.not_mem_nil, or_false] at hu
  rcases hu with rfl | rfl | rfl | rfl <;> rfl
theorem elem_bal : Elem Tryz.prog 33 102 4 32 := Elem.mk' (z := .agg #[.int .i64 0, .int .i64 0, .int .i64 0, .int .i64 0]) Tryz.underlying33 (by kernel_rfl) rfl (by decide)
theorem bal_sz : (Tryz.prog.info? 102).map (·.size) = some 4 := by kernel_rfl

structure PlT where
  who : Int
  asset : Int
  units : Int
deriving DecidableEq
def PlT.ints (c : PlT) : List Int := [c.who, c.asset, c.units]
def PlT.vs (c : PlT) : List Value := [.int .i64 c.who, .int .i64 c.asset, .int .i64 c.units]
def PlT.bytes (c : PlT) : List UInt8 := encIs c.ints
theorem PlT.len (c : PlT) : c.vs.length = 3 := rfl
theorem PlT.blen (c : PlT) (h : okI c.ints) : c.bytes.length ≤ 200 := by
  have h1 := encIs_length c.ints h
  have h2 : c.ints.length = 3 := rfl
  unfold PlT.bytes
  omega
theorem PlT.one (c : PlT) : ∀ u ∈ c.vs, u.oneCell' = true := by
  intro u hu
  simp only [PlT.vs, List.mem_cons, List.not_mem_nil, or_false] at hu
  rcases hu with rfl | rfl | rfl <;> rfl
theorem elem_ple : Elem Tryz.prog 36 104 3 24 := Elem.mk' (z := .agg #[.int .i64 0, .int .i64 0, .int .i64 0]) Tryz.underlying36 (by kernel_rfl) rfl (by decide)
theorem ple_sz : (Tryz.prog.info? 104).map (·.size) = some 3 := by kernel_rfl

structure CaT where
  who : Int
  cur : Int
  amt : Int
  tick : Int
deriving DecidableEq
def CaT.ints (c : CaT) : List Int := [c.who, c.cur, c.amt, c.tick]
def CaT.vs (c : CaT) : List Value := [.int .i64 c.who, .int .i64 c.cur, .int .i64 c.amt, .int .i64 c.tick]
def CaT.bytes (c : CaT) : List UInt8 := encIs c.ints
theorem CaT.len (c : CaT) : c.vs.length = 4 := rfl
theorem CaT.blen (c : CaT) (h : okI c.ints) : c.bytes.length ≤ 200 := by
  have h1 := encIs_length c.ints h
  have h2 : c.ints.length = 4 := rfl
  unfold CaT.bytes
  omega
theorem CaT.one (c : CaT) : ∀ u ∈ c.vs, u.oneCell' = true := by
  intro u hu
  simp only [CaT.vs, List.mem_cons, List.not_mem_nil, or_false] at hu
  rcases hu with rfl | rfl | rfl | rfl <;> rfl
theorem elem_cal : Elem Tryz.prog 37 108 4 32 := Elem.mk' (z := .agg #[.int .i64 0, .int .i64 0, .int .i64 0, .int .i64 0]) Tryz.underlying37 (by kernel_rfl) rfl (by decide)
theorem cal_sz : (Tryz.prog.info? 108).map (·.size) = some 4 := by kernel_rfl

structure BiT where
  who : Int
  inst : Int
  frm : Int
  qty : Int
  price : Int
deriving DecidableEq
def BiT.ints (c : BiT) : List Int := [c.who, c.inst, c.frm, c.qty, c.price]
def BiT.vs (c : BiT) : List Value := [.int .i64 c.who, .int .i64 c.inst, .int .i64 c.frm, .int .i64 c.qty, .int .i64 c.price]
def BiT.bytes (c : BiT) : List UInt8 := encIs c.ints
theorem BiT.len (c : BiT) : c.vs.length = 5 := rfl
theorem BiT.blen (c : BiT) (h : okI c.ints) : c.bytes.length ≤ 200 := by
  have h1 := encIs_length c.ints h
  have h2 : c.ints.length = 5 := rfl
  unfold BiT.bytes
  omega
theorem BiT.one (c : BiT) : ∀ u ∈ c.vs, u.oneCell' = true := by
  intro u hu
  simp only [BiT.vs, List.mem_cons, List.not_mem_nil, or_false] at hu
  rcases hu with rfl | rfl | rfl | rfl | rfl <;> rfl
theorem elem_bid : Elem Tryz.prog 38 110 5 40 := Elem.mk' (z := .agg #[.int .i64 0, .int .i64 0, .int .i64 0, .int .i64 0, .int .i64 0]) Tryz.underlying38 (by kernel_rfl) rfl (by decide)
theorem bid_sz : (Tryz.prog.info? 110).map (·.size) = some 5 := by kernel_rfl
end Cam
/- wire.writer: the closures that write the rows of a state. -/
namespace Cam
open Go Go.RowKit Go.Proofs
variable {tw tb : TypeId} {rs : List Value}

set_option maxRecDepth 100000 in
set_option maxHeartbeats 1600000 in
theorem wmem_any (w : World) (g : Nat) (v : Value) (l : List UInt8) (lg : Bool) (gw : Nat) (c : MbT) (hp : PW tw rs w g v l lg) (hgw : HT w gw tb [.pointer (some ⟨g, 0, none⟩)]) (hgn : gw ≠ g ∧ v.ownBlock ≠ some gw) (hr : okI c.ints) (hlen : l.length ≤ 35184372088832) :
    Calls Tryz.prog 118 #[.agg #[.int .i64 c.no, .int .i64 c.state, .int .i64 c.need], .pointer (some ⟨gw, 0, none⟩)] w fun e w' => e = .returned (.tuple #[]) ∧ PWPost tw rs w g v (l ++ c.bytes) lg w' := by
  have hbx := (Below.refl w.heap.size w).alloc (Nat.le_refl _) (.cells #[.int .i64 c.no, .int .i64 c.state, .int .i64 c.need] 86)
  have hc : HT (w.alloc (.cells #[.int .i64 c.no, .int .i64 c.state, .int .i64 c.need] 86)) w.heap.size 86 [.int .i64 c.no, .int .i64 c.state, .int .i64 c.need] := HT.new (w := w)
  have hng : w.heap.size ≠ g := by have := hp.lt; omega
  have hnv : v.ownBlock ≠ some w.heap.size := fun e => by have := (hp.row _ e).2; omega
  have HP0 := Lib.hid (hp.below hbx)
  have HBX := Lib.hid hbx
  have HC0 := Lib.hid hc
  have HGW0 := Lib.hid (hgw.below hbx)
  have HNE0 : Hid (w.heap.size ≠ g ∧ v.ownBlock ≠ some w.heap.size ∧ gw ≠ g ∧ v.ownBlock ≠ some gw) := ⟨hng, hnv, hgn.1, hgn.2⟩
  have HR : Hid (okI [c.no, c.state, c.need]) := hr
  have HLEN := Lib.hid hlen
  show Calls _ _ _ _ fun e w' => e = .returned (.tuple #[]) ∧ PWPost tw rs w g v (l ++ encIs [c.no, c.state, c.need]) lg w'
  clear hbx hc hng hnv hp hr hlen hgw hgn
  go_enter Tryz.func118, Tryz.ntmps118
  go_wp2_with fail
  generalize hW : (w.alloc (.cells #[.int .i64 c.no, .int .i64 c.state, .int .i64 c.need] 86)) = W0 at *
  clear hW
  have HK0 : Hid (Kept (fun k => k = g ∨ v.ownBlock = some k) W0 W0) := Kept.refl _ _
  have HO0 : Hid (∀ k, v.ownBlock = some k → v.ownBlock = some k ∨ W0.heap.size ≤ k) := fun k h => .inl h
  generalize hgc : w.heap.size = gc at *
  have HGC : Hid (gc = w.heap.size) := hgc.symm
  clear hgc
  refine wp_region_bl 10 (by kernel_rfl) ?_
  refine wpAnyU_take (i := 0) (oi := { dst := some 3, op := Op.load 83 (Operand.tmp 1), type := 83, pos := "write.go:46", after := #[], guard := none }) (v := (.pointer (some ⟨g, 0, none⟩))) rfl (by kernel_rfl) (by kernel_rfl) (by kernel_rfl) (by kernel_rfl) (by kernel_rfl) (fun _ _ _ h => h) (BL.cls W0) ?_ ?_
  · refine Or.inl ⟨rfl, fun w hSw => ?_⟩
    have e0 := BL.cell hSw (HGW0.out.cell (j := 0) rfl)
    exact EffR.same (by go_simp)
  try simp only [Act.put, List.setIfInBounds_toArray, List.set_cons_zero, List.set_cons_succ]
  refine wpAnyU_take (i := 1) (oi := { dst := some 4, op := Op.nilCheck (Operand.tmp 3), type := 0, pos := "write.go:46", after := #[{ on := 0, ground := Ground.data }], guard := none }) (v := (.pointer (some ⟨g, 0, none⟩))) rfl (by kernel_rfl) (by kernel_rfl) (by kernel_rfl) (by kernel_rfl) (by kernel_rfl) (fun _ _ _ h => h) (BL.cls W0) ?_ ?_
  · refine Or.inl ⟨rfl, fun w hSw => ?_⟩
    exact EffR.same (by go_simp)
  try simp only [Act.put, List.setIfInBounds_toArray, List.set_cons_zero, List.set_cons_succ]
  refine wpAnyU_take (i := 2) (oi := { dst := some 5, op := Op.fieldAddr 80 (Operand.tmp 4) 0, type := 0, pos := "write.go:46", after := #[{ on := 1, ground := Ground.data }], guard := none }) (v := (.pointer (some ⟨g, 0, none⟩))) rfl (by kernel_rfl) (by kernel_rfl) (by kernel_rfl) (by kernel_rfl) (by kernel_rfl) (fun _ _ _ h => h) (BL.cls W0) ?_ ?_
  · refine Or.inl ⟨rfl, fun w hSw => ?_⟩
    exact EffR.same (by go_simp)
  try simp only [Act.put, List.setIfInBounds_toArray, List.set_cons_zero, List.set_cons_succ]
  refine wpAnyU_take (i := 3) (oi := { dst := some 6, op := Op.fieldAddr 86 (Operand.tmp 2) 0, type := 0, pos := "write.go:46", after := #[], guard := none }) (v := (.pointer (some ⟨gc, 0, none⟩))) rfl (by kernel_rfl) (by kernel_rfl) (by kernel_rfl) (by kernel_rfl) (by kernel_rfl) (fun _ _ _ h => h) (BL.cls W0) ?_ ?_
  · refine Or.inl ⟨rfl, fun w hSw => ?_⟩
    exact EffR.same (by go_simp)
  try simp only [Act.put, List.setIfInBounds_toArray, List.set_cons_zero, List.set_cons_succ]
  refine wpAnyU_take (i := 4) (oi := { dst := some 7, op := Op.load 3 (Operand.tmp 6), type := 3, pos := "write.go:46", after := #[{ on := 3, ground := Ground.data }], guard := none }) (v := (.int .i64 c.no)) rfl (by kernel_rfl) (by kernel_rfl) (by kernel_rfl) (by kernel_rfl) (by kernel_rfl) (fun _ _ _ h => h) (BL.cls W0) ?_ ?_
  · refine Or.inl ⟨rfl, fun w hSw => ?_⟩
    have e0 := BL.cell hSw (HC0.out.cell (j := 0) rfl)
    exact EffR.same (by go_simp)
  try simp only [Act.put, List.setIfInBounds_toArray, List.set_cons_zero, List.set_cons_succ]
  refine wpAnyU_take (i := 5) (oi := { dst := some 8, op := Op.fieldAddr 86 (Operand.tmp 2) 1, type := 0, pos := "write.go:46", after := #[], guard := none }) (v := (.pointer (some ⟨gc, 1, none⟩))) rfl (by kernel_rfl) (by kernel_rfl) (by kernel_rfl) (by kernel_rfl) (by kernel_rfl) (fun _ _ _ h => h) (BL.cls W0) ?_ ?_
  · refine Or.inl ⟨rfl, fun w hSw => ?_⟩
    exact EffR.same (by go_simp)
  try simp only [Act.put, List.setIfInBounds_toArray, List.set_cons_zero, List.set_cons_succ]
  refine wpAnyU_take (i := 6) (oi := { dst := some 9, op := Op.load 3 (Operand.tmp 8), type := 3, pos := "write.go:46", after := #[{ on := 5, ground := Ground.data }], guard := none }) (v := (.int .i64 c.state)) rfl (by kernel_rfl) (by kernel_rfl) (by kernel_rfl) (by kernel_rfl) (by kernel_rfl) (fun _ _ _ h => h) (BL.cls W0) ?_ ?_
  · refine Or.inl ⟨rfl, fun w hSw => ?_⟩
    have e0 := BL.cell hSw (HC0.out.cell (j := 1) rfl)
    exact EffR.same (by go_simp)
  try simp only [Act.put, List.setIfInBounds_toArray, List.set_cons_zero, List.set_cons_succ]
  refine wpAnyU_take (i := 7) (oi := { dst := some 10, op := Op.fieldAddr 86 (Operand.tmp 2) 2, type := 0, pos := "write.go:46", after := #[], guard := none }) (v := (.pointer (some ⟨gc, 2, none⟩))) rfl (by kernel_rfl) (by kernel_rfl) (by kernel_rfl) (by kernel_rfl) (by kernel_rfl) (fun _ _ _ h => h) (BL.cls W0) ?_ ?_
  · refine Or.inl ⟨rfl, fun w hSw => ?_⟩
    exact EffR.same (by go_simp)
  try simp only [Act.put, List.setIfInBounds_toArray, List.set_cons_zero, List.set_cons_succ]
  refine wpAnyU_take (i := 8) (oi := { dst := some 11, op := Op.load 3 (Operand.tmp 10), type := 3, pos := "write.go:46", after := #[{ on := 7, ground := Ground.data }], guard := none }) (v := (.int .i64 c.need)) rfl (by kernel_rfl) (by kernel_rfl) (by kernel_rfl) (by kernel_rfl) (by kernel_rfl) (fun _ _ _ h => h) (BL.cls W0) ?_ ?_
  · refine Or.inl ⟨rfl, fun w hSw => ?_⟩
    have e0 := BL.cell hSw (HC0.out.cell (j := 2) rfl)
    exact EffR.same (by go_simp)
  try simp only [Act.put, List.setIfInBounds_toArray, List.set_cons_zero, List.set_cons_succ]
  refine wpAnyU_ready (rs := [9]) (by kernel_rfl) (by simp) ?_
  refine AllReadyU.cons (o := { dst := some 12, op := Op.buildSlice 155 3 #[(0, Operand.tmp 7), (1, Operand.tmp 9), (2, Operand.tmp 11)], type := 155, pos := "write.go:46", after := #[{ on := 4, ground := Ground.data }, { on := 6, ground := Ground.data }, { on := 8, ground := Ground.data }], guard := none }) rfl (fun wA9 hA9 K hK => ?_) AllReadyU.nil
  go_simp
  refine hK.out _ _ (BL (wA9.alloc (.cells #[.int .i64 c.no, .int .i64 c.state, .int .i64 c.need] 3))) (BL.cls' (hA9.alloc (Below.size hA9) _)) (Below.refl _ _) ?_
  clear hK K
  try simp only [Act.put, List.setIfInBounds_toArray, List.set_cons_zero, List.set_cons_succ]
  refine wpAnyU_last (o := { dst := some 13, op := Op.call { callee := Callee.value (Operand.func 55), args := #[Operand.tmp 5, Operand.tmp 12], argTypes := #[78, 155] }, type := 0, pos := "write.go:46", after := #[{ on := 2, ground := Ground.data }, { on := 9, ground := Ground.data }], guard := none }) (by kernel_rfl) (by kernel_rfl) rfl (fun w1 hb1 K hK => ?_)
  go_simp
  have hbl : Below W0.heap.size W0 w1 := (Below.alloc hA9 hA9.size (.cells #[.int .i64 c.no, .int .i64 c.state, .int .i64 c.need] 3)).trans (hb1.mono (by simp; exact Nat.le_succ_of_le hA9.size))
  have hp1 := HP0.out.below hbl
  have his : Is (wA9.alloc (.cells #[.int .i64 c.no, .int .i64 c.state, .int .i64 c.need] 3)) (.slice (some ⟨wA9.heap.size, 0, none⟩) 3 3) [c.no, c.state, c.need] := Is.block (l := [c.no, c.state, c.need]) (heap_new rfl) (Nat.le_refl _) (by simp [maxLen])
  have his1 := his.mono hb1
  refine (WInt_any w1 g v l lg _ _ hp1 his1 (fun w2 hk => his1.kept1 hk (fun _ k hi e => ?_)) (fun n hn => HR.out n (by rw [show [c.no, c.state, c.need] = [] ++ ([c.no, c.state, c.need] ++ []) from rfl]; exact List.mem_append_right _ (List.mem_append_left _ hn))) (by have := HLEN.out; simp; omega)).mono ?_
  · obtain ⟨ad, n, c, hv, rfl⟩ := hi
    injection hv with h5
    injection h5 with h5
    subst h5
    have h6 := hA9.size
    rcases e with e | e'
    · have := HP0.out.lt
      simp only at e
      omega
    · have := (HP0.out.row _ e').2
      simp only at this
      omega
  rintro e wn ⟨rfl, hpo⟩
  have HPO := Lib.hid (hpo.pre hbl)
  clear hbl hp1 his his1 hpo hb1
  refine hK.out _ _ ?_
  clear hK K
  try simp only [Act.put, List.setIfInBounds_toArray, List.set_cons_zero, List.set_cons_succ]
  have hf := PWPost.next ⟨HP0.out, HK0.out, HO0.out⟩ HPO.out
  clear HPO
  go_wp2_with fail
  go_end0
  exact ⟨rfl, PWPost.pre (by rw [← HGC.out]; exact HBX.out) hf⟩

set_option maxRecDepth 100000 in
set_option maxHeartbeats 1600000 in
theorem wins_any (w : World) (g : Nat) (v : Value) (l : List UInt8) (lg : Bool) (gw : Nat) (c : InT) (hp : PW tw rs w g v l lg) (hgw : HT w gw tb [.pointer (some ⟨g, 0, none⟩)]) (hgn : gw ≠ g ∧ v.ownBlock ≠ some gw) (hr : okI c.ints) (hlen : l.length ≤ 35184372088832) :
    Calls Tryz.prog 120 #[.agg #[.int .i64 c.no, .int .i64 c.cur, .int .i64 c.mult, .int .i64 c.add, .int .i64 c.set, .int .i64 c.price, .int .i64 c.h0, .int .i64 c.h1, .int .i64 c.h2, .int .i64 c.h3, .int .i64 c.h4, .int .i64 c.h5], .pointer (some ⟨gw, 0, none⟩)] w fun e w' => e = .returned (.tuple #[]) ∧ PWPost tw rs w g v (l ++ c.bytes) lg w' := by
  have hbx := (Below.refl w.heap.size w).alloc (Nat.le_refl _) (.cells #[.int .i64 c.no, .int .i64 c.cur, .int .i64 c.mult, .int .i64 c.add, .int .i64 c.set, .int .i64 c.price, .int .i64 c.h0, .int .i64 c.h1, .int .i64 c.h2, .int .i64 c.h3, .int .i64 c.h4, .int .i64 c.h5] 88)
  have hc : HT (w.alloc (.cells #[.int .i64 c.no, .int .i64 c.cur, .int .i64 c.mult, .int .i64 c.add, .int .i64 c.set, .int .i64 c.price, .int .i64 c.h0, .int .i64 c.h1, .int .i64 c.h2, .int .i64 c.h3, .int .i64 c.h4, .int .i64 c.h5] 88)) w.heap.size 88 [.int .i64 c.no, .int .i64 c.cur, .int .i64 c.mult, .int .i64 c.add, .int .i64 c.set, .int .i64 c.price, .int .i64 c.h0, .int .i64 c.h1, .int .i64 c.h2, .int .i64 c.h3, .int .i64 c.h4, .int .i64 c.h5] := HT.new (w := w)
  have hng : w.heap.size ≠ g := by have := hp.lt; omega
  have hnv : v.ownBlock ≠ some w.heap.size := fun e => by have := (hp.row _ e).2; omega
  have HP0 := Lib.hid (hp.below hbx)
  have HBX := Lib.hid hbx
  have HC0 := Lib.hid hc
  have HGW0 := Lib.hid (hgw.below hbx)
  have HNE0 : Hid (w.heap.size ≠ g ∧ v.ownBlock ≠ some w.heap.size ∧ gw ≠ g ∧ v.ownBlock ≠ some gw) := ⟨hng, hnv, hgn.1, hgn.2⟩
  have HR : Hid (okI [c.no, c.cur, c.mult, c.add, c.set, c.price, c.h0, c.h1, c.h2, c.h3, c.h4, c.h5]) := hr
  have HLEN := Lib.hid hlen
  show Calls _ _ _ _ fun e w' => e = .returned (.tuple #[]) ∧ PWPost tw rs w g v (l ++ encIs [c.no, c.cur, c.mult, c.add, c.set, c.price, c.h0, c.h1, c.h2, c.h3, c.h4, c.h5]) lg w'
  clear hbx hc hng hnv hp hr hlen hgw hgn
  go_enter Tryz.func120, Tryz.ntmps120
  go_wp2_with fail
  generalize hW : (w.alloc (.cells #[.int .i64 c.no, .int .i64 c.cur, .int .i64 c.mult, .int .i64 c.add, .int .i64 c.set, .int .i64 c.price, .int .i64 c.h0, .int .i64 c.h1, .int .i64 c.h2, .int .i64 c.h3, .int .i64 c.h4, .int .i64 c.h5] 88)) = W0 at *
  clear hW
  have HK0 : Hid (Kept (fun k => k = g ∨ v.ownBlock = some k) W0 W0) := Kept.refl _ _
  have HO0 : Hid (∀ k, v.ownBlock = some k → v.ownBlock = some k ∨ W0.heap.size ≤ k) := fun k h => .inl h
  generalize hgc : w.heap.size = gc at *
  have HGC : Hid (gc = w.heap.size) := hgc.symm
  clear hgc
  refine wp_region_bl 16 (by kernel_rfl) ?_
  refine wpAnyU_take (i := 0) (oi := { dst := some 3, op := Op.load 83 (Operand.tmp 1), type := 83, pos := "write.go:48", after := #[], guard := none }) (v := (.pointer (some ⟨g, 0, none⟩))) rfl (by kernel_rfl) (by kernel_rfl) (by kernel_rfl) (by kernel_rfl) (by kernel_rfl) (fun _ _ _ h => h) (BL.cls W0) ?_ ?_
  · refine Or.inl ⟨rfl, fun w hSw => ?_⟩
    have e0 := BL.cell hSw (HGW0.out.cell (j := 0) rfl)
    exact EffR.same (by go_simp)
  try simp only [Act.put, List.setIfInBounds_toArray, List.set_cons_zero, List.set_cons_succ]
  refine wpAnyU_take (i := 1) (oi := { dst := some 4, op := Op.nilCheck (Operand.tmp 3), type := 0, pos := "write.go:48", after := #[{ on := 0, ground := Ground.data }], guard := none }) (v := (.pointer (some ⟨g, 0, none⟩))) rfl (by kernel_rfl) (by kernel_rfl) (by kernel_rfl) (by kernel_rfl) (by kernel_rfl) (fun _ _ _ h => h) (BL.cls W0) ?_ ?_
  · refine Or.inl ⟨rfl, fun w hSw => ?_⟩
    exact EffR.same (by go_simp)
  try simp only [Act.put, List.setIfInBounds_toArray, List.set_cons_zero, List.set_cons_succ]
  refine wpAnyU_take (i := 2) (oi := { dst := some 5, op := Op.fieldAddr 80 (Operand.tmp 4) 0, type := 0, pos := "write.go:48", after := #[{ on := 1, ground := Ground.data }], guard := none }) (v := (.pointer (some ⟨g, 0, none⟩))) rfl (by kernel_rfl) (by kernel_rfl) (by kernel_rfl) (by kernel_rfl) (by kernel_rfl) (fun _ _ _ h => h) (BL.cls W0) ?_ ?_
  · refine Or.inl ⟨rfl, fun w hSw => ?_⟩
    exact EffR.same (by go_simp)
  try simp only [Act.put, List.setIfInBounds_toArray, List.set_cons_zero, List.set_cons_succ]
  refine wpAnyU_take (i := 3) (oi := { dst := some 6, op := Op.fieldAddr 88 (Operand.tmp 2) 0, type := 0, pos := "write.go:48", after := #[], guard := none }) (v := (.pointer (some ⟨gc, 0, none⟩))) rfl (by kernel_rfl) (by kernel_rfl) (by kernel_rfl) (by kernel_rfl) (by kernel_rfl) (fun _ _ _ h => h) (BL.cls W0) ?_ ?_
  · refine Or.inl ⟨rfl, fun w hSw => ?_⟩
    exact EffR.same (by go_simp)
  try simp only [Act.put, List.setIfInBounds_toArray, List.set_cons_zero, List.set_cons_succ]
  refine wpAnyU_take (i := 4) (oi := { dst := some 7, op := Op.load 3 (Operand.tmp 6), type := 3, pos := "write.go:48", after := #[{ on := 3, ground := Ground.data }], guard := none }) (v := (.int .i64 c.no)) rfl (by kernel_rfl) (by kernel_rfl) (by kernel_rfl) (by kernel_rfl) (by kernel_rfl) (fun _ _ _ h => h) (BL.cls W0) ?_ ?_
  · refine Or.inl ⟨rfl, fun w hSw => ?_⟩
    have e0 := BL.cell hSw (HC0.out.cell (j := 0) rfl)
    exact EffR.same (by go_simp)
  try simp only [Act.put, List.setIfInBounds_toArray, List.set_cons_zero, List.set_cons_succ]
  refine wpAnyU_take (i := 5) (oi := { dst := some 8, op := Op.fieldAddr 88 (Operand.tmp 2) 1, type := 0, pos := "write.go:48", after := #[], guard := none }) (v := (.pointer (some ⟨gc, 1, none⟩))) rfl (by kernel_rfl) (by kernel_rfl) (by kernel_rfl) (by kernel_rfl) (by kernel_rfl) (fun _ _ _ h => h) (BL.cls W0) ?_ ?_
  · refine Or.inl ⟨rfl, fun w hSw => ?_⟩
    exact EffR.same (by go_simp)
  try simp only [Act.put, List.setIfInBounds_toArray, List.set_cons_zero, List.set_cons_succ]
  refine wpAnyU_take (i := 6) (oi := { dst := some 9, op := Op.load 3 (Operand.tmp 8), type := 3, pos := "write.go:48", after := #[{ on := 5, ground := Ground.data }], guard := none }) (v := (.int .i64 c.cur)) rfl (by kernel_rfl) (by kernel_rfl) (by kernel_rfl) (by kernel_rfl) (by kernel_rfl) (fun _ _ _ h => h) (BL.cls W0) ?_ ?_
  · refine Or.inl ⟨rfl, fun w hSw => ?_⟩
    have e0 := BL.cell hSw (HC0.out.cell (j := 1) rfl)
    exact EffR.same (by go_simp)
  try simp only [Act.put, List.setIfInBounds_toArray, List.set_cons_zero, List.set_cons_succ]
  refine wpAnyU_take (i := 7) (oi := { dst := some 10, op := Op.fieldAddr 88 (Operand.tmp 2) 2, type := 0, pos := "write.go:48", after := #[], guard := none }) (v := (.pointer (some ⟨gc, 2, none⟩))) rfl (by kernel_rfl) (by kernel_rfl) (by kernel_rfl) (by kernel_rfl) (by kernel_rfl) (fun _ _ _ h => h) (BL.cls W0) ?_ ?_
  · refine Or.inl ⟨rfl, fun w hSw => ?_⟩
    exact EffR.same (by go_simp)
  try simp only [Act.put, List.setIfInBounds_toArray, List.set_cons_zero, List.set_cons_succ]
  refine wpAnyU_take (i := 8) (oi := { dst := some 11, op := Op.load 3 (Operand.tmp 10), type := 3, pos := "write.go:48", after := #[{ on := 7, ground := Ground.data }], guard := none }) (v := (.int .i64 c.mult)) rfl (by kernel_rfl) (by kernel_rfl) (by kernel_rfl) (by kernel_rfl) (by kernel_rfl) (fun _ _ _ h => h) (BL.cls W0) ?_ ?_
  · refine Or.inl ⟨rfl, fun w hSw => ?_⟩
    have e0 := BL.cell hSw (HC0.out.cell (j := 2) rfl)
    exact EffR.same (by go_simp)
  try simp only [Act.put, List.setIfInBounds_toArray, List.set_cons_zero, List.set_cons_succ]
  refine wpAnyU_take (i := 9) (oi := { dst := some 12, op := Op.fieldAddr 88 (Operand.tmp 2) 3, type := 0, pos := "write.go:48", after := #[], guard := none }) (v := (.pointer (some ⟨gc, 3, none⟩))) rfl (by kernel_rfl) (by kernel_rfl) (by kernel_rfl) (by kernel_rfl) (by kernel_rfl) (fun _ _ _ h => h) (BL.cls W0) ?_ ?_
  · refine Or.inl ⟨rfl, fun w hSw => ?_⟩
    exact EffR.same (by go_simp)
  try simp only [Act.put, List.setIfInBounds_toArray, List.set_cons_zero, List.set_cons_succ]
  refine wpAnyU_take (i := 10) (oi := { dst := some 13, op := Op.load 3 (Operand.tmp 12), type := 3, pos := "write.go:48", after := #[{ on := 9, ground := Ground.data }], guard := none }) (v := (.int .i64 c.add)) rfl (by kernel_rfl) (by kernel_rfl) (by kernel_rfl) (by kernel_rfl) (by kernel_rfl) (fun _ _ _ h => h) (BL.cls W0) ?_ ?_
  · refine Or.inl ⟨rfl, fun w hSw => ?_⟩
    have e0 := BL.cell hSw (HC0.out.cell (j := 3) rfl)
    exact EffR.same (by go_simp)
  try simp only [Act.put, List.setIfInBounds_toArray, List.set_cons_zero, List.set_cons_succ]
  refine wpAnyU_take (i := 11) (oi := { dst := some 14, op := Op.fieldAddr 88 (Operand.tmp 2) 4, type := 0, pos := "write.go:48", after := #[], guard := none }) (v := (.pointer (some ⟨gc, 4, none⟩))) rfl (by kernel_rfl) (by kernel_rfl) (by kernel_rfl) (by kernel_rfl) (by kernel_rfl) (fun _ _ _ h => h) (BL.cls W0) ?_ ?_
  · refine Or.inl ⟨rfl, fun w hSw => ?_⟩
    exact EffR.same (by go_simp)
  try simp only [Act.put, List.setIfInBounds_toArray, List.set_cons_zero, List.set_cons_succ]
  refine wpAnyU_take (i := 12) (oi := { dst := some 15, op := Op.load 3 (Operand.tmp 14), type := 3, pos := "write.go:48", after := #[{ on := 11, ground := Ground.data }], guard := none }) (v := (.int .i64 c.set)) rfl (by kernel_rfl) (by kernel_rfl) (by kernel_rfl) (by kernel_rfl) (by kernel_rfl) (fun _ _ _ h => h) (BL.cls W0) ?_ ?_
  · refine Or.inl ⟨rfl, fun w hSw => ?_⟩
    have e0 := BL.cell hSw (HC0.out.cell (j := 4) rfl)
    exact EffR.same (by go_simp)
  try simp only [Act.put, List.setIfInBounds_toArray, List.set_cons_zero, List.set_cons_succ]
  refine wpAnyU_take (i := 13) (oi := { dst := some 16, op := Op.fieldAddr 88 (Operand.tmp 2) 5, type := 0, pos := "write.go:48", after := #[], guard := none }) (v := (.pointer (some ⟨gc, 5, none⟩))) rfl (by kernel_rfl) (by kernel_rfl) (by kernel_rfl) (by kernel_rfl) (by kernel_rfl) (fun _ _ _ h => h) (BL.cls W0) ?_ ?_
  · refine Or.inl ⟨rfl, fun w hSw => ?_⟩
    exact EffR.same (by go_simp)
  try simp only [Act.put, List.setIfInBounds_toArray, List.set_cons_zero, List.set_cons_succ]
  refine wpAnyU_take (i := 14) (oi := { dst := some 17, op := Op.load 3 (Operand.tmp 16), type := 3, pos := "write.go:48", after := #[{ on := 13, ground := Ground.data }], guard := none }) (v := (.int .i64 c.price)) rfl (by kernel_rfl) (by kernel_rfl) (by kernel_rfl) (by kernel_rfl) (by kernel_rfl) (fun _ _ _ h => h) (BL.cls W0) ?_ ?_
  · refine Or.inl ⟨rfl, fun w hSw => ?_⟩
    have e0 := BL.cell hSw (HC0.out.cell (j := 5) rfl)
    exact EffR.same (by go_simp)
  try simp only [Act.put, List.setIfInBounds_toArray, List.set_cons_zero, List.set_cons_succ]
  refine wpAnyU_ready (rs := [15]) (by kernel_rfl) (by simp) ?_
  refine AllReadyU.cons (o := { dst := some 18, op := Op.buildSlice 155 6 #[(0, Operand.tmp 7), (1, Operand.tmp 9), (2, Operand.tmp 11), (3, Operand.tmp 13), (4, Operand.tmp 15), (5, Operand.tmp 17)], type := 155, pos := "write.go:48", after := #[{ on := 4, ground := Ground.data }, { on := 6, ground := Ground.data }, { on := 8, ground := Ground.data }, { on := 10, ground := Ground.data }, { on := 12, ground := Ground.data }, { on := 14, ground := Ground.data }], guard := none }) rfl (fun wA15 hA15 K hK => ?_) AllReadyU.nil
  go_simp
  refine hK.out _ _ (BL (wA15.alloc (.cells #[.int .i64 c.no, .int .i64 c.cur, .int .i64 c.mult, .int .i64 c.add, .int .i64 c.set, .int .i64 c.price] 3))) (BL.cls' (hA15.alloc (Below.size hA15) _)) (Below.refl _ _) ?_
  clear hK K
  try simp only [Act.put, List.setIfInBounds_toArray, List.set_cons_zero, List.set_cons_succ]
  refine wpAnyU_last (o := { dst := some 19, op := Op.call { callee := Callee.value (Operand.func 55), args := #[Operand.tmp 5, Operand.tmp 18], argTypes := #[78, 155] }, type := 0, pos := "write.go:48", after := #[{ on := 2, ground := Ground.data }, { on := 15, ground := Ground.data }], guard := none }) (by kernel_rfl) (by kernel_rfl) rfl (fun w1 hb1 K hK => ?_)
  go_simp
  have hbl : Below W0.heap.size W0 w1 := (Below.alloc hA15 hA15.size (.cells #[.int .i64 c.no, .int .i64 c.cur, .int .i64 c.mult, .int .i64 c.add, .int .i64 c.set, .int .i64 c.price] 3)).trans (hb1.mono (by simp; exact Nat.le_succ_of_le hA15.size))
  have hp1 := HP0.out.below hbl
  have his : Is (wA15.alloc (.cells #[.int .i64 c.no, .int .i64 c.cur, .int .i64 c.mult, .int .i64 c.add, .int .i64 c.set, .int .i64 c.price] 3)) (.slice (some ⟨wA15.heap.size, 0, none⟩) 6 6) [c.no, c.cur, c.mult, c.add, c.set, c.price] := Is.block (l := [c.no, c.cur, c.mult, c.add, c.set, c.price]) (heap_new rfl) (Nat.le_refl _) (by simp [maxLen])
  have his1 := his.mono hb1
  refine (WInt_any w1 g v l lg _ _ hp1 his1 (fun w2 hk => his1.kept1 hk (fun _ k hi e => ?_)) (fun n hn => HR.out n (by rw [show [c.no, c.cur, c.mult, c.add, c.set, c.price, c.h0, c.h1, c.h2, c.h3, c.h4, c.h5] = [] ++ ([c.no, c.cur, c.mult, c.add, c.set, c.price] ++ [c.h0, c.h1, c.h2, c.h3, c.h4, c.h5]) from rfl]; exact List.mem_append_right _ (List.mem_append_left _ hn))) (by have := HLEN.out; simp; omega)).mono ?_
  · obtain ⟨ad, n, c, hv, rfl⟩ := hi
    injection hv with h5
    injection h5 with h5
    subst h5
    have h6 := hA15.size
    rcases e with e | e'
    · have := HP0.out.lt
      simp only at e
      omega
    · have := (HP0.out.row _ e').2
      simp only at this
      omega
  rintro e wn ⟨rfl, hpo⟩
  have HPO := Lib.hid (hpo.pre hbl)
  clear hbl hp1 his his1 hpo hb1
  refine hK.out _ _ ?_
  clear hK K
  try simp only [Act.put, List.setIfInBounds_toArray, List.set_cons_zero, List.set_cons_succ]
  have hf := PWPost.next ⟨HP0.out, HK0.out, HO0.out⟩ HPO.out
  clear HPO
  obtain ⟨v1, hp, hk, ho⟩ := hf
  have HP1 := Lib.hid hp
  have HK1 := Lib.hid hk
  have HO1 := Lib.hid ho
  have hcW : HT wn gc 88 [.int .i64 c.no, .int .i64 c.cur, .int .i64 c.mult, .int .i64 c.add, .int .i64 c.set, .int .i64 c.price, .int .i64 c.h0, .int .i64 c.h1, .int .i64 c.h2, .int .i64 c.h3, .int .i64 c.h4, .int .i64 c.h5] := HT.keptH HC0.out hk (fun e => e.elim (fun e => HNE0.out.1 e) (fun e => HNE0.out.2.1 e))
  have hgW : HT wn gw tb [.pointer (some ⟨g, 0, none⟩)] := HT.keptH HGW0.out hk (fun e => e.elim (fun e => HNE0.out.2.2.1 e) (fun e => HNE0.out.2.2.2 e))
  have HC1 := Lib.hid hcW
  have HGW1 := Lib.hid hgW
  have HNE1 : Hid (gc ≠ g ∧ v1.ownBlock ≠ some gc ∧ gw ≠ g ∧ v1.ownBlock ≠ some gw) := ⟨HNE0.out.1, fun e => by rcases ho gc e with h | h; exact HNE0.out.2.1 h; have := HC0.out.lt; omega, HNE0.out.2.2.1, fun e => by rcases ho gw e with h | h; exact HNE0.out.2.2.2 h; have := HGW0.out.lt; omega⟩
  clear hp hk ho hcW hgW
  generalize wn = W1 at *
  go_wp2_with fail
  refine wp_region_bl 5 (by kernel_rfl) ?_
  refine wpAnyU_take (i := 0) (oi := { dst := some 20, op := Op.load 83 (Operand.tmp 1), type := 83, pos := "write.go:49", after := #[], guard := none }) (v := (.pointer (some ⟨g, 0, none⟩))) rfl (by kernel_rfl) (by kernel_rfl) (by kernel_rfl) (by kernel_rfl) (by kernel_rfl) (fun _ _ _ h => h) (BL.cls W1) ?_ ?_
  · refine Or.inl ⟨rfl, fun w hSw => ?_⟩
    have e0 := BL.cell hSw (HGW1.out.cell (j := 0) rfl)
    exact EffR.same (by go_simp)
  try simp only [Act.put, List.setIfInBounds_toArray, List.set_cons_zero, List.set_cons_succ]
  refine wpAnyU_take (i := 1) (oi := { dst := some 21, op := Op.nilCheck (Operand.tmp 20), type := 0, pos := "write.go:49", after := #[{ on := 0, ground := Ground.data }], guard := none }) (v := (.pointer (some ⟨g, 0, none⟩))) rfl (by kernel_rfl) (by kernel_rfl) (by kernel_rfl) (by kernel_rfl) (by kernel_rfl) (fun _ _ _ h => h) (BL.cls W1) ?_ ?_
  · refine Or.inl ⟨rfl, fun w hSw => ?_⟩
    exact EffR.same (by go_simp)
  try simp only [Act.put, List.setIfInBounds_toArray, List.set_cons_zero, List.set_cons_succ]
  refine wpAnyU_take (i := 2) (oi := { dst := some 22, op := Op.fieldAddr 80 (Operand.tmp 21) 0, type := 0, pos := "write.go:49", after := #[{ on := 1, ground := Ground.data }], guard := none }) (v := (.pointer (some ⟨g, 0, none⟩))) rfl (by kernel_rfl) (by kernel_rfl) (by kernel_rfl) (by kernel_rfl) (by kernel_rfl) (fun _ _ _ h => h) (BL.cls W1) ?_ ?_
  · refine Or.inl ⟨rfl, fun w hSw => ?_⟩
    exact EffR.same (by go_simp)
  try simp only [Act.put, List.setIfInBounds_toArray, List.set_cons_zero, List.set_cons_succ]
  refine wpAnyU_take (i := 3) (oi := { dst := some 23, op := Op.fieldAddr 88 (Operand.tmp 2) 6, type := 0, pos := "write.go:49", after := #[], guard := none }) (v := (.pointer (some ⟨gc, 6, none⟩))) rfl (by kernel_rfl) (by kernel_rfl) (by kernel_rfl) (by kernel_rfl) (by kernel_rfl) (fun _ _ _ h => h) (BL.cls W1) ?_ ?_
  · refine Or.inl ⟨rfl, fun w hSw => ?_⟩
    exact EffR.same (by go_simp)
  try simp only [Act.put, List.setIfInBounds_toArray, List.set_cons_zero, List.set_cons_succ]
  refine wpAnyU_take (i := 4) (oi := { dst := some 24, op := Op.slice 57 (Operand.tmp 23) none none none, type := 155, pos := "write.go:49", after := #[{ on := 3, ground := Ground.data }], guard := none }) (v := (.slice (some ⟨gc, 6, none⟩) 6 6)) rfl (by kernel_rfl) (by kernel_rfl) (by kernel_rfl) (by kernel_rfl) (by kernel_rfl) (fun _ _ _ h => h) (BL.cls W1) ?_ ?_
  · refine Or.inl ⟨rfl, fun w hSw => ?_⟩
    exact EffR.same (by go_simp)
  try simp only [Act.put, List.setIfInBounds_toArray, List.set_cons_zero, List.set_cons_succ]
  refine wpAnyU_last (o := { dst := some 25, op := Op.call { callee := Callee.value (Operand.func 55), args := #[Operand.tmp 22, Operand.tmp 24], argTypes := #[78, 155] }, type := 0, pos := "write.go:49", after := #[{ on := 2, ground := Ground.data }, { on := 4, ground := Ground.data }], guard := none }) (by kernel_rfl) (by kernel_rfl) rfl (fun w1 hb1 K hK => ?_)
  go_simp
  have hp1 := HP1.out.below hb1
  have his1 := (is_mid (ys := [c.no, c.cur, c.mult, c.add, c.set, c.price]) (zs := [c.h0, c.h1, c.h2, c.h3, c.h4, c.h5]) (us := []) HC1.out (by simp)).mono hb1
  refine (WInt_any w1 g v1 (l ++ encIs [c.no, c.cur, c.mult, c.add, c.set, c.price]) lg _ _ hp1 his1 (fun w2 hk => his1.kept1 hk (fun _ k hi e => ?_)) (fun n hn => HR.out n (by rw [show [c.no, c.cur, c.mult, c.add, c.set, c.price, c.h0, c.h1, c.h2, c.h3, c.h4, c.h5] = [c.no, c.cur, c.mult, c.add, c.set, c.price] ++ ([c.h0, c.h1, c.h2, c.h3, c.h4, c.h5] ++ []) from rfl]; exact List.mem_append_right _ (List.mem_append_left _ hn))) (by have h1 := HLEN.out; have h2 := encIs_length [c.no, c.cur, c.mult, c.add, c.set, c.price] (fun n hn => HR.out n (by rw [show [c.no, c.cur, c.mult, c.add, c.set, c.price, c.h0, c.h1, c.h2, c.h3, c.h4, c.h5] = [] ++ ([c.no, c.cur, c.mult, c.add, c.set, c.price] ++ [c.h0, c.h1, c.h2, c.h3, c.h4, c.h5]) from rfl]; exact List.mem_append_right _ (List.mem_append_left _ hn))); simp at h1 h2 ⊢; omega)).mono ?_
  · obtain ⟨ad, n, c, hv, rfl⟩ := hi
    injection hv with h5
    injection h5 with h5
    subst h5
    rcases e with e | e'
    · exact HNE1.out.1 e
    · exact HNE1.out.2.1 e'
  rintro e wn ⟨rfl, hpo⟩
  have HPO := Lib.hid (hpo.pre hb1)
  clear hp1 his1 hpo hb1
  refine hK.out _ _ ?_
  clear hK K
  try simp only [Act.put, List.setIfInBounds_toArray, List.set_cons_zero, List.set_cons_succ]
  have hf := PWPost.next ⟨HP1.out, HK1.out, HO1.out⟩ HPO.out
  have e : l ++ encIs [c.no, c.cur, c.mult, c.add, c.set, c.price] ++ encIs [c.h0, c.h1, c.h2, c.h3, c.h4, c.h5] = l ++ encIs [c.no, c.cur, c.mult, c.add, c.set, c.price, c.h0, c.h1, c.h2, c.h3, c.h4, c.h5] := by rw [List.append_assoc]; simp [encIs]
  rw [e] at hf
  clear HPO
  go_wp2_with fail
  go_end0
  exact ⟨rfl, PWPost.pre (by rw [← HGC.out]; exact HBX.out) hf⟩

set_option maxRecDepth 100000 in
set_option maxHeartbeats 1600000 in
theorem wass_any (w : World) (g : Nat) (v : Value) (l : List UInt8) (lg : Bool) (gw : Nat) (c : AsT) (hp : PW tw rs w g v l lg) (hgw : HT w gw tb [.pointer (some ⟨g, 0, none⟩)]) (hgn : gw ≠ g ∧ v.ownBlock ≠ some gw) (hr : okI c.ints) (hlen : l.length ≤ 35184372088832) :
    Calls Tryz.prog 122 #[.agg #[.int .i64 c.no, .int .i64 c.cur, .int .i64 c.price, .int .i64 c.cut], .pointer (some ⟨gw, 0, none⟩)] w fun e w' => e = .returned (.tuple #[]) ∧ PWPost tw rs w g v (l ++ c.bytes) lg w' := by
  have hbx := (Below.refl w.heap.size w).alloc (Nat.le_refl _) (.cells #[.int .i64 c.no, .int .i64 c.cur, .int .i64 c.price, .int .i64 c.cut] 91)
  have hc : HT (w.alloc (.cells #[.int .i64 c.no, .int .i64 c.cur, .int .i64 c.price, .int .i64 c.cut] 91)) w.heap.size 91 [.int .i64 c.no, .int .i64 c.cur, .int .i64 c.price, .int .i64 c.cut] := HT.new (w := w)
  have hng : w.heap.size ≠ g := by have := hp.lt; omega
  have hnv : v.ownBlock ≠ some w.heap.size := fun e => by have := (hp.row _ e).2; omega
  have HP0 := Lib.hid (hp.below hbx)
  have HBX := Lib.hid hbx
  have HC0 := Lib.hid hc
  have HGW0 := Lib.hid (hgw.below hbx)
  have HNE0 : Hid (w.heap.size ≠ g ∧ v.ownBlock ≠ some w.heap.size ∧ gw ≠ g ∧ v.ownBlock ≠ some gw) := ⟨hng, hnv, hgn.1, hgn.2⟩
  have HR : Hid (okI [c.no, c.cur, c.price, c.cut]) := hr
  have HLEN := Lib.hid hlen
  show Calls _ _ _ _ fun e w' => e = .returned (.tuple #[]) ∧ PWPost tw rs w g v (l ++ encIs [c.no, c.cur, c.price, c.cut]) lg w'
  clear hbx hc hng hnv hp hr hlen hgw hgn
  go_enter Tryz.func122, Tryz.ntmps122
  go_wp2_with fail
  generalize hW : (w.alloc (.cells #[.int .i64 c.no, .int .i64 c.cur, .int .i64 c.price, .int .i64 c.cut] 91)) = W0 at *
  clear hW
  have HK0 : Hid (Kept (fun k => k = g ∨ v.ownBlock = some k) W0 W0) := Kept.refl _ _
  have HO0 : Hid (∀ k, v.ownBlock = some k → v.ownBlock = some k ∨ W0.heap.size ≤ k) := fun k h => .inl h
  generalize hgc : w.heap.size = gc at *
  have HGC : Hid (gc = w.heap.size) := hgc.symm
  clear hgc
  refine wp_region_bl 12 (by kernel_rfl) ?_
  refine wpAnyU_take (i := 0) (oi := { dst := some 3, op := Op.load 83 (Operand.tmp 1), type := 83, pos := "write.go:51", after := #[], guard := none }) (v := (.pointer (some ⟨g, 0, none⟩))) rfl (by kernel_rfl) (by kernel_rfl) (by kernel_rfl) (by kernel_rfl) (by kernel_rfl) (fun _ _ _ h => h) (BL.cls W0) ?_ ?_
  · refine Or.inl ⟨rfl, fun w hSw => ?_⟩
    have e0 := BL.cell hSw (HGW0.out.cell (j := 0) rfl)
    exact EffR.same (by go_simp)
  try simp only [Act.put, List.setIfInBounds_toArray, List.set_cons_zero, List.set_cons_succ]
  refine wpAnyU_take (i := 1) (oi := { dst := some 4, op := Op.nilCheck (Operand.tmp 3), type := 0, pos := "write.go:51", after := #[{ on := 0, ground := Ground.data }], guard := none }) (v := (.pointer (some ⟨g, 0, none⟩))) rfl (by kernel_rfl) (by kernel_rfl) (by kernel_rfl) (by kernel_rfl) (by kernel_rfl) (fun _ _ _ h => h) (BL.cls W0) ?_ ?_
  · refine Or.inl ⟨rfl, fun w hSw => ?_⟩
    exact EffR.same (by go_simp)
  try simp only [Act.put, List.setIfInBounds_toArray, List.set_cons_zero, List.set_cons_succ]
  refine wpAnyU_take (i := 2) (oi := { dst := some 5, op := Op.fieldAddr 80 (Operand.tmp 4) 0, type := 0, pos := "write.go:51", after := #[{ on := 1, ground := Ground.data }], guard := none }) (v := (.pointer (some ⟨g, 0, none⟩))) rfl (by kernel_rfl) (by kernel_rfl) (by kernel_rfl) (by kernel_rfl) (by kernel_rfl) (fun _ _ _ h => h) (BL.cls W0) ?_ ?_
  · refine Or.inl ⟨rfl, fun w hSw => ?_⟩
    exact EffR.same (by go_simp)
  try simp only [Act.put, List.setIfInBounds_toArray, List.set_cons_zero, List.set_cons_succ]
  refine wpAnyU_take (i := 3) (oi := { dst := some 6, op := Op.fieldAddr 91 (Operand.tmp 2) 0, type := 0, pos := "write.go:51", after := #[], guard := none }) (v := (.pointer (some ⟨gc, 0, none⟩))) rfl (by kernel_rfl) (by kernel_rfl) (by kernel_rfl) (by kernel_rfl) (by kernel_rfl) (fun _ _ _ h => h) (BL.cls W0) ?_ ?_
  · refine Or.inl ⟨rfl, fun w hSw => ?_⟩
    exact EffR.same (by go_simp)
  try simp only [Act.put, List.setIfInBounds_toArray, List.set_cons_zero, List.set_cons_succ]
  refine wpAnyU_take (i := 4) (oi := { dst := some 7, op := Op.load 3 (Operand.tmp 6), type := 3, pos := "write.go:51", after := #[{ on := 3, ground := Ground.data }], guard := none }) (v := (.int .i64 c.no)) rfl (by kernel_rfl) (by kernel_rfl) (by kernel_rfl) (by kernel_rfl) (by kernel_rfl) (fun _ _ _ h => h) (BL.cls W0) ?_ ?_
  · refine Or.inl ⟨rfl, fun w hSw => ?_⟩
    have e0 := BL.cell hSw (HC0.out.cell (j := 0) rfl)
    exact EffR.same (by go_simp)
  try simp only [Act.put, List.setIfInBounds_toArray, List.set_cons_zero, List.set_cons_succ]
  refine wpAnyU_take (i := 5) (oi := { dst := some 8, op := Op.fieldAddr 91 (Operand.tmp 2) 1, type := 0, pos := "write.go:51", after := #[], guard := none }) (v := (.pointer (some ⟨gc, 1, none⟩))) rfl (by kernel_rfl) (by kernel_rfl) (by kernel_rfl) (by kernel_rfl) (by kernel_rfl) (fun _ _ _ h => h) (BL.cls W0) ?_ ?_
  · refine Or.inl ⟨rfl, fun w hSw => ?_⟩
    exact EffR.same (by go_simp)
  try simp only [Act.put, List.setIfInBounds_toArray, List.set_cons_zero, List.set_cons_succ]
  refine wpAnyU_take (i := 6) (oi := { dst := some 9, op := Op.load 3 (Operand.tmp 8), type := 3, pos := "write.go:51", after := #[{ on := 5, ground := Ground.data }], guard := none }) (v := (.int .i64 c.cur)) rfl (by kernel_rfl) (by kernel_rfl) (by kernel_rfl) (by kernel_rfl) (by kernel_rfl) (fun _ _ _ h => h) (BL.cls W0) ?_ ?_
  · refine Or.inl ⟨rfl, fun w hSw => ?_⟩
    have e0 := BL.cell hSw (HC0.out.cell (j := 1) rfl)
    exact EffR.same (by go_simp)
  try simp only [Act.put, List.setIfInBounds_toArray, List.set_cons_zero, List.set_cons_succ]
  refine wpAnyU_take (i := 7) (oi := { dst := some 10, op := Op.fieldAddr 91 (Operand.tmp 2) 2, type := 0, pos := "write.go:51", after := #[], guard := none }) (v := (.pointer (some ⟨gc, 2, none⟩))) rfl (by kernel_rfl) (by kernel_rfl) (by kernel_rfl) (by kernel_rfl) (by kernel_rfl) (fun _ _ _ h => h) (BL.cls W0) ?_ ?_
  · refine Or.inl ⟨rfl, fun w hSw => ?_⟩
    exact EffR.same (by go_simp)
  try simp only [Act.put, List.setIfInBounds_toArray, List.set_cons_zero, List.set_cons_succ]
  refine wpAnyU_take (i := 8) (oi := { dst := some 11, op := Op.load 3 (Operand.tmp 10), type := 3, pos := "write.go:51", after := #[{ on := 7, ground := Ground.data }], guard := none }) (v := (.int .i64 c.price)) rfl (by kernel_rfl) (by kernel_rfl) (by kernel_rfl) (by kernel_rfl) (by kernel_rfl) (fun _ _ _ h => h) (BL.cls W0) ?_ ?_
  · refine Or.inl ⟨rfl, fun w hSw => ?_⟩
    have e0 := BL.cell hSw (HC0.out.cell (j := 2) rfl)
    exact EffR.same (by go_simp)
  try simp only [Act.put, List.setIfInBounds_toArray, List.set_cons_zero, List.set_cons_succ]
  refine wpAnyU_take (i := 9) (oi := { dst := some 12, op := Op.fieldAddr 91 (Operand.tmp 2) 3, type := 0, pos := "write.go:51", after := #[], guard := none }) (v := (.pointer (some ⟨gc, 3, none⟩))) rfl (by kernel_rfl) (by kernel_rfl) (by kernel_rfl) (by kernel_rfl) (by kernel_rfl) (fun _ _ _ h => h) (BL.cls W0) ?_ ?_
  · refine Or.inl ⟨rfl, fun w hSw => ?_⟩
    exact EffR.same (by go_simp)
  try simp only [Act.put, List.setIfInBounds_toArray, List.set_cons_zero, List.set_cons_succ]
  refine wpAnyU_take (i := 10) (oi := { dst := some 13, op := Op.load 3 (Operand.tmp 12), type := 3, pos := "write.go:51", after := #[{ on := 9, ground := Ground.data }], guard := none }) (v := (.int .i64 c.cut)) rfl (by kernel_rfl) (by kernel_rfl) (by kernel_rfl) (by kernel_rfl) (by kernel_rfl) (fun _ _ _ h => h) (BL.cls W0) ?_ ?_
  · refine Or.inl ⟨rfl, fun w hSw => ?_⟩
    have e0 := BL.cell hSw (HC0.out.cell (j := 3) rfl)
    exact EffR.same (by go_simp)
  try simp only [Act.put, List.setIfInBounds_toArray, List.set_cons_zero, List.set_cons_succ]
  refine wpAnyU_ready (rs := [11]) (by kernel_rfl) (by simp) ?_
  refine AllReadyU.cons (o := { dst := some 14, op := Op.buildSlice 155 4 #[(0, Operand.tmp 7), (1, Operand.tmp 9), (2, Operand.tmp 11), (3, Operand.tmp 13)], type := 155, pos := "write.go:51", after := #[{ on := 4, ground := Ground.data }, { on := 6, ground := Ground.data }, { on := 8, ground := Ground.data }, { on := 10, ground := Ground.data }], guard := none }) rfl (fun wA11 hA11 K hK => ?_) AllReadyU.nil
  go_simp
  refine hK.out _ _ (BL (wA11.alloc (.cells #[.int .i64 c.no, .int .i64 c.cur, .int .i64 c.price, .int .i64 c.cut] 3))) (BL.cls' (hA11.alloc (Below.size hA11) _)) (Below.refl _ _) ?_
  clear hK K
  try simp only [Act.put, List.setIfInBounds_toArray, List.set_cons_zero, List.set_cons_succ]
  refine wpAnyU_last (o := { dst := some 15, op := Op.call { callee := Callee.value (Operand.func 55), args := #[Operand.tmp 5, Operand.tmp 14], argTypes := #[78, 155] }, type := 0, pos := "write.go:51", after := #[{ on := 2, ground := Ground.data }, { on := 11, ground := Ground.data }], guard := none }) (by kernel_rfl) (by kernel_rfl) rfl (fun w1 hb1 K hK => ?_)
  go_simp
  have hbl : Below W0.heap.size W0 w1 := (Below.alloc hA11 hA11.size (.cells #[.int .i64 c.no, .int .i64 c.cur, .int .i64 c.price, .int .i64 c.cut] 3)).trans (hb1.mono (by simp; exact Nat.le_succ_of_le hA11.size))
  have hp1 := HP0.out.below hbl
  have his : Is (wA11.alloc (.cells #[.int .i64 c.no, .int .i64 c.cur, .int .i64 c.price, .int .i64 c.cut] 3)) (.slice (some ⟨wA11.heap.size, 0, none⟩) 4 4) [c.no, c.cur, c.price, c.cut] := Is.block (l := [c.no, c.cur, c.price, c.cut]) (heap_new rfl) (Nat.le_refl _) (by simp [maxLen])
  have his1 := his.mono hb1
  refine (WInt_any w1 g v l lg _ _ hp1 his1 (fun w2 hk => his1.kept1 hk (fun _ k hi e => ?_)) (fun n hn => HR.out n (by rw [show [c.no, c.cur, c.price, c.cut] = [] ++ ([c.no, c.cur, c.price, c.cut] ++ []) from rfl]; exact List.mem_append_right _ (List.mem_append_left _ hn))) (by have := HLEN.out; simp; omega)).mono ?_
  · obtain ⟨ad, n, c, hv, rfl⟩ := hi
    injection hv with h5
    injection h5 with h5
    subst h5
    have h6 := hA11.size
    rcases e with e | e'
    · have := HP0.out.lt
      simp only at e
      omega
    · have := (HP0.out.row _ e').2
      simp only at this
      omega
  rintro e wn ⟨rfl, hpo⟩
  have HPO := Lib.hid (hpo.pre hbl)
  clear hbl hp1 his his1 hpo hb1
  refine hK.out _ _ ?_
  clear hK K
  try simp only [Act.put, List.setIfInBounds_toArray, List.set_cons_zero, List.set_cons_succ]
  have hf := PWPost.next ⟨HP0.out, HK0.out, HO0.out⟩ HPO.out
  clear HPO
  go_wp2_with fail
  go_end0
  exact ⟨rfl, PWPost.pre (by rw [← HGC.out]; exact HBX.out) hf⟩

set_option maxRecDepth 100000 in
set_option maxHeartbeats 1600000 in
theorem wtrd_any (w : World) (g : Nat) (v : Value) (l : List UInt8) (lg : Bool) (gw : Nat) (c : TrT) (hp : PW tw rs w g v l lg) (hgw : HT w gw tb [.pointer (some ⟨g, 0, none⟩)]) (hgn : gw ≠ g ∧ v.ownBlock ≠ some gw) (hr : okI c.ints) (hlen : l.length ≤ 35184372088832) :
    Calls Tryz.prog 124 #[.agg #[.int .i64 c.no, .int .i64 c.buyer, .int .i64 c.seller, .int .i64 c.inst, .int .i64 c.qty, .int .i64 c.price, .bool c.off], .pointer (some ⟨gw, 0, none⟩)] w fun e w' => e = .returned (.tuple #[]) ∧ PWPost tw rs w g v (l ++ c.bytes) lg w' := by
  have hbx := (Below.refl w.heap.size w).alloc (Nat.le_refl _) (.cells #[.int .i64 c.no, .int .i64 c.buyer, .int .i64 c.seller, .int .i64 c.inst, .int .i64 c.qty, .int .i64 c.price, .bool c.off] 93)
  have hc : HT (w.alloc (.cells #[.int .i64 c.no, .int .i64 c.buyer, .int .i64 c.seller, .int .i64 c.inst, .int .i64 c.qty, .int .i64 c.price, .bool c.off] 93)) w.heap.size 93 [.int .i64 c.no, .int .i64 c.buyer, .int .i64 c.seller, .int .i64 c.inst, .int .i64 c.qty, .int .i64 c.price, .bool c.off] := HT.new (w := w)
  have hng : w.heap.size ≠ g := by have := hp.lt; omega
  have hnv : v.ownBlock ≠ some w.heap.size := fun e => by have := (hp.row _ e).2; omega
  have HP0 := Lib.hid (hp.below hbx)
  have HBX := Lib.hid hbx
  have HC0 := Lib.hid hc
  have HGW0 := Lib.hid (hgw.below hbx)
  have HNE0 : Hid (w.heap.size ≠ g ∧ v.ownBlock ≠ some w.heap.size ∧ gw ≠ g ∧ v.ownBlock ≠ some gw) := ⟨hng, hnv, hgn.1, hgn.2⟩
  have HR : Hid (okI [c.no, c.buyer, c.seller, c.inst, c.qty, c.price]) := hr
  have HLEN := Lib.hid hlen
  show Calls _ _ _ _ fun e w' => e = .returned (.tuple #[]) ∧ PWPost tw rs w g v (l ++ (encIs [c.no, c.buyer, c.seller, c.inst, c.qty, c.price] ++ markB c.off)) lg w'
  clear hbx hc hng hnv hp hr hlen hgw hgn
  go_enter Tryz.func124, Tryz.ntmps124
  go_wp2_with fail
  generalize hW : (w.alloc (.cells #[.int .i64 c.no, .int .i64 c.buyer, .int .i64 c.seller, .int .i64 c.inst, .int .i64 c.qty, .int .i64 c.price, .bool c.off] 93)) = W0 at *
  clear hW
  have HK0 : Hid (Kept (fun k => k = g ∨ v.ownBlock = some k) W0 W0) := Kept.refl _ _
  have HO0 : Hid (∀ k, v.ownBlock = some k → v.ownBlock = some k ∨ W0.heap.size ≤ k) := fun k h => .inl h
  generalize hgc : w.heap.size = gc at *
  have HGC : Hid (gc = w.heap.size) := hgc.symm
  clear hgc
  refine wp_region_bl 16 (by kernel_rfl) ?_
  refine wpAnyU_take (i := 0) (oi := { dst := some 3, op := Op.load 83 (Operand.tmp 1), type := 83, pos := "write.go:57", after := #[], guard := none }) (v := (.pointer (some ⟨g, 0, none⟩))) rfl (by kernel_rfl) (by kernel_rfl) (by kernel_rfl) (by kernel_rfl) (by kernel_rfl) (fun _ _ _ h => h) (BL.cls W0) ?_ ?_
  · refine Or.inl ⟨rfl, fun w hSw => ?_⟩
    have e0 := BL.cell hSw (HGW0.out.cell (j := 0) rfl)
    exact EffR.same (by go_simp)
  try simp only [Act.put, List.setIfInBounds_toArray, List.set_cons_zero, List.set_cons_succ]
  refine wpAnyU_take (i := 1) (oi := { dst := some 4, op := Op.nilCheck (Operand.tmp 3), type := 0, pos := "write.go:57", after := #[{ on := 0, ground := Ground.data }], guard := none }) (v := (.pointer (some ⟨g, 0, none⟩))) rfl (by kernel_rfl) (by kernel_rfl) (by kernel_rfl) (by kernel_rfl) (by kernel_rfl) (fun _ _ _ h => h) (BL.cls W0) ?_ ?_
  · refine Or.inl ⟨rfl, fun w hSw => ?_⟩
    exact EffR.same (by go_simp)
  try simp only [Act.put, List.setIfInBounds_toArray, List.set_cons_zero, List.set_cons_succ]
  refine wpAnyU_take (i := 2) (oi := { dst := some 5, op := Op.fieldAddr 80 (Operand.tmp 4) 0, type := 0, pos := "write.go:57", after := #[{ on := 1, ground := Ground.data }], guard := none }) (v := (.pointer (some ⟨g, 0, none⟩))) rfl (by kernel_rfl) (by kernel_rfl) (by kernel_rfl) (by kernel_rfl) (by kernel_rfl) (fun _ _ _ h => h) (BL.cls W0) ?_ ?_
  · refine Or.inl ⟨rfl, fun w hSw => ?_⟩
    exact EffR.same (by go_simp)
  try simp only [Act.put, List.setIfInBounds_toArray, List.set_cons_zero, List.set_cons_succ]
  refine wpAnyU_take (i := 3) (oi := { dst := some 6, op := Op.fieldAddr 93 (Operand.tmp 2) 0, type := 0, pos := "write.go:57", after := #[], guard := none }) (v := (.pointer (some ⟨gc, 0, none⟩))) rfl (by kernel_rfl) (by kernel_rfl) (by kernel_rfl) (by kernel_rfl) (by kernel_rfl) (fun _ _ _ h => h) (BL.cls W0) ?_ ?_
  · refine Or.inl ⟨rfl, fun w hSw => ?_⟩
    exact EffR.same (by go_simp)
  try simp only [Act.put, List.setIfInBounds_toArray, List.set_cons_zero, List.set_cons_succ]
  refine wpAnyU_take (i := 4) (oi := { dst := some 7, op := Op.load 3 (Operand.tmp 6), type := 3, pos := "write.go:57", after := #[{ on := 3, ground := Ground.data }], guard := none }) (v := (.int .i64 c.no)) rfl (by kernel_rfl) (by kernel_rfl) (by kernel_rfl) (by kernel_rfl) (by kernel_rfl) (fun _ _ _ h => h) (BL.cls W0) ?_ ?_
  · refine Or.inl ⟨rfl, fun w hSw => ?_⟩
    have e0 := BL.cell hSw (HC0.out.cell (j := 0) rfl)
    exact EffR.same (by go_simp)
  try simp only [Act.put, List.setIfInBounds_toArray, List.set_cons_zero, List.set_cons_succ]
  refine wpAnyU_take (i := 5) (oi := { dst := some 8, op := Op.fieldAddr 93 (Operand.tmp 2) 1, type := 0, pos := "write.go:57", after := #[], guard := none }) (v := (.pointer (some ⟨gc, 1, none⟩))) rfl (by kernel_rfl) (by kernel_rfl) (by kernel_rfl) (by kernel_rfl) (by kernel_rfl) (fun _ _ _ h => h) (BL.cls W0) ?_ ?_
  · refine Or.inl ⟨rfl, fun w hSw => ?_⟩
    exact EffR.same (by go_simp)
  try simp only [Act.put, List.setIfInBounds_toArray, List.set_cons_zero, List.set_cons_succ]
  refine wpAnyU_take (i := 6) (oi := { dst := some 9, op := Op.load 3 (Operand.tmp 8), type := 3, pos := "write.go:57", after := #[{ on := 5, ground := Ground.data }], guard := none }) (v := (.int .i64 c.buyer)) rfl (by kernel_rfl) (by kernel_rfl) (by kernel_rfl) (by kernel_rfl) (by kernel_rfl) (fun _ _ _ h => h) (BL.cls W0) ?_ ?_
  · refine Or.inl ⟨rfl, fun w hSw => ?_⟩
    have e0 := BL.cell hSw (HC0.out.cell (j := 1) rfl)
    exact EffR.same (by go_simp)
  try simp only [Act.put, List.setIfInBounds_toArray, List.set_cons_zero, List.set_cons_succ]
  refine wpAnyU_take (i := 7) (oi := { dst := some 10, op := Op.fieldAddr 93 (Operand.tmp 2) 2, type := 0, pos := "write.go:57", after := #[], guard := none }) (v := (.pointer (some ⟨gc, 2, none⟩))) rfl (by kernel_rfl) (by kernel_rfl) (by kernel_rfl) (by kernel_rfl) (by kernel_rfl) (fun _ _ _ h => h) (BL.cls W0) ?_ ?_
  · refine Or.inl ⟨rfl, fun w hSw => ?_⟩
    exact EffR.same (by go_simp)
  try simp only [Act.put, List.setIfInBounds_toArray, List.set_cons_zero, List.set_cons_succ]
  refine wpAnyU_take (i := 8) (oi := { dst := some 11, op := Op.load 3 (Operand.tmp 10), type := 3, pos := "write.go:57", after := #[{ on := 7, ground := Ground.data }], guard := none }) (v := (.int .i64 c.seller)) rfl (by kernel_rfl) (by kernel_rfl) (by kernel_rfl) (by kernel_rfl) (by kernel_rfl) (fun _ _ _ h => h) (BL.cls W0) ?_ ?_
  · refine Or.inl ⟨rfl, fun w hSw => ?_⟩
    have e0 := BL.cell hSw (HC0.out.cell (j := 2) rfl)
    exact EffR.same (by go_simp)
  try simp only [Act.put, List.setIfInBounds_toArray, List.set_cons_zero, List.set_cons_succ]
  refine wpAnyU_take (i := 9) (oi := { dst := some 12, op := Op.fieldAddr 93 (Operand.tmp 2) 3, type := 0, pos := "write.go:57", after := #[], guard := none }) (v := (.pointer (some ⟨gc, 3, none⟩))) rfl (by kernel_rfl) (by kernel_rfl) (by kernel_rfl) (by kernel_rfl) (by kernel_rfl) (fun _ _ _ h => h) (BL.cls W0) ?_ ?_
  · refine Or.inl ⟨rfl, fun w hSw => ?_⟩
    exact EffR.same (by go_simp)
  try simp only [Act.put, List.setIfInBounds_toArray, List.set_cons_zero, List.set_cons_succ]
  refine wpAnyU_take (i := 10) (oi := { dst := some 13, op := Op.load 3 (Operand.tmp 12), type := 3, pos := "write.go:57", after := #[{ on := 9, ground := Ground.data }], guard := none }) (v := (.int .i64 c.inst)) rfl (by kernel_rfl) (by kernel_rfl) (by kernel_rfl) (by kernel_rfl) (by kernel_rfl) (fun _ _ _ h => h) (BL.cls W0) ?_ ?_
  · refine Or.inl ⟨rfl, fun w hSw => ?_⟩
    have e0 := BL.cell hSw (HC0.out.cell (j := 3) rfl)
    exact EffR.same (by go_simp)
  try simp only [Act.put, List.setIfInBounds_toArray, List.set_cons_zero, List.set_cons_succ]
  refine wpAnyU_take (i := 11) (oi := { dst := some 14, op := Op.fieldAddr 93 (Operand.tmp 2) 4, type := 0, pos := "write.go:57", after := #[], guard := none }) (v := (.pointer (some ⟨gc, 4, none⟩))) rfl (by kernel_rfl) (by kernel_rfl) (by kernel_rfl) (by kernel_rfl) (by kernel_rfl) (fun _ _ _ h => h) (BL.cls W0) ?_ ?_
  · refine Or.inl ⟨rfl, fun w hSw => ?_⟩
    exact EffR.same (by go_simp)
  try simp only [Act.put, List.setIfInBounds_toArray, List.set_cons_zero, List.set_cons_succ]
  refine wpAnyU_take (i := 12) (oi := { dst := some 15, op := Op.load 3 (Operand.tmp 14), type := 3, pos := "write.go:57", after := #[{ on := 11, ground := Ground.data }], guard := none }) (v := (.int .i64 c.qty)) rfl (by kernel_rfl) (by kernel_rfl) (by kernel_rfl) (by kernel_rfl) (by kernel_rfl) (fun _ _ _ h => h) (BL.cls W0) ?_ ?_
  · refine Or.inl ⟨rfl, fun w hSw => ?_⟩
    have e0 := BL.cell hSw (HC0.out.cell (j := 4) rfl)
    exact EffR.same (by go_simp)
  try simp only [Act.put, List.setIfInBounds_toArray, List.set_cons_zero, List.set_cons_succ]
  refine wpAnyU_take (i := 13) (oi := { dst := some 16, op := Op.fieldAddr 93 (Operand.tmp 2) 5, type := 0, pos := "write.go:57", after := #[], guard := none }) (v := (.pointer (some ⟨gc, 5, none⟩))) rfl (by kernel_rfl) (by kernel_rfl) (by kernel_rfl) (by kernel_rfl) (by kernel_rfl) (fun _ _ _ h => h) (BL.cls W0) ?_ ?_
  · refine Or.inl ⟨rfl, fun w hSw => ?_⟩
    exact EffR.same (by go_simp)
  try simp only [Act.put, List.setIfInBounds_toArray, List.set_cons_zero, List.set_cons_succ]
  refine wpAnyU_take (i := 14) (oi := { dst := some 17, op := Op.load 3 (Operand.tmp 16), type := 3, pos := "write.go:57", after := #[{ on := 13, ground := Ground.data }], guard := none }) (v := (.int .i64 c.price)) rfl (by kernel_rfl) (by kernel_rfl) (by kernel_rfl) (by kernel_rfl) (by kernel_rfl) (fun _ _ _ h => h) (BL.cls W0) ?_ ?_
  · refine Or.inl ⟨rfl, fun w hSw => ?_⟩
    have e0 := BL.cell hSw (HC0.out.cell (j := 5) rfl)
    exact EffR.same (by go_simp)
  try simp only [Act.put, List.setIfInBounds_toArray, List.set_cons_zero, List.set_cons_succ]
  refine wpAnyU_ready (rs := [15]) (by kernel_rfl) (by simp) ?_
  refine AllReadyU.cons (o := { dst := some 18, op := Op.buildSlice 155 6 #[(0, Operand.tmp 7), (1, Operand.tmp 9), (2, Operand.tmp 11), (3, Operand.tmp 13), (4, Operand.tmp 15), (5, Operand.tmp 17)], type := 155, pos := "write.go:57", after := #[{ on := 4, ground := Ground.data }, { on := 6, ground := Ground.data }, { on := 8, ground := Ground.data }, { on := 10, ground := Ground.data }, { on := 12, ground := Ground.data }, { on := 14, ground := Ground.data }], guard := none }) rfl (fun wA15 hA15 K hK => ?_) AllReadyU.nil
  go_simp
  refine hK.out _ _ (BL (wA15.alloc (.cells #[.int .i64 c.no, .int .i64 c.buyer, .int .i64 c.seller, .int .i64 c.inst, .int .i64 c.qty, .int .i64 c.price] 3))) (BL.cls' (hA15.alloc (Below.size hA15) _)) (Below.refl _ _) ?_
  clear hK K
  try simp only [Act.put, List.setIfInBounds_toArray, List.set_cons_zero, List.set_cons_succ]
  refine wpAnyU_last (o := { dst := some 19, op := Op.call { callee := Callee.value (Operand.func 55), args := #[Operand.tmp 5, Operand.tmp 18], argTypes := #[78, 155] }, type := 0, pos := "write.go:57", after := #[{ on := 2, ground := Ground.data }, { on := 15, ground := Ground.data }], guard := none }) (by kernel_rfl) (by kernel_rfl) rfl (fun w1 hb1 K hK => ?_)
  go_simp
  have hbl : Below W0.heap.size W0 w1 := (Below.alloc hA15 hA15.size (.cells #[.int .i64 c.no, .int .i64 c.buyer, .int .i64 c.seller, .int .i64 c.inst, .int .i64 c.qty, .int .i64 c.price] 3)).trans (hb1.mono (by simp; exact Nat.le_succ_of_le hA15.size))
  have hp1 := HP0.out.below hbl
  have his : Is (wA15.alloc (.cells #[.int .i64 c.no, .int .i64 c.buyer, .int .i64 c.seller, .int .i64 c.inst, .int .i64 c.qty, .int .i64 c.price] 3)) (.slice (some ⟨wA15.heap.size, 0, none⟩) 6 6) [c.no, c.buyer, c.seller, c.inst, c.qty, c.price] := Is.block (l := [c.no, c.buyer, c.seller, c.inst, c.qty, c.price]) (heap_new rfl) (Nat.le_refl _) (by simp [maxLen])
  have his1 := his.mono hb1
  refine (WInt_any w1 g v l lg _ _ hp1 his1 (fun w2 hk => his1.kept1 hk (fun _ k hi e => ?_)) (fun n hn => HR.out n (by rw [show [c.no, c.buyer, c.seller, c.inst, c.qty, c.price] = [] ++ ([c.no, c.buyer, c.seller, c.inst, c.qty, c.price] ++ []) from rfl]; exact List.mem_append_right _ (List.mem_append_left _ hn))) (by have := HLEN.out; simp; omega)).mono ?_
  · obtain ⟨ad, n, c, hv, rfl⟩ := hi
    injection hv with h5
    injection h5 with h5
    subst h5
    have h6 := hA15.size
    rcases e with e | e'
    · have := HP0.out.lt
      simp only at e
      omega
    · have := (HP0.out.row _ e').2
      simp only at this
      omega
  rintro e wn ⟨rfl, hpo⟩
  have HPO := Lib.hid (hpo.pre hbl)
  clear hbl hp1 his his1 hpo hb1
  refine hK.out _ _ ?_
  clear hK K
  try simp only [Act.put, List.setIfInBounds_toArray, List.set_cons_zero, List.set_cons_succ]
  have hf := PWPost.next ⟨HP0.out, HK0.out, HO0.out⟩ HPO.out
  clear HPO
  obtain ⟨v1, hp, hk, ho⟩ := hf
  have HP1 := Lib.hid hp
  have HK1 := Lib.hid hk
  have HO1 := Lib.hid ho
  have hcW : HT wn gc 93 [.int .i64 c.no, .int .i64 c.buyer, .int .i64 c.seller, .int .i64 c.inst, .int .i64 c.qty, .int .i64 c.price, .bool c.off] := HT.keptH HC0.out hk (fun e => e.elim (fun e => HNE0.out.1 e) (fun e => HNE0.out.2.1 e))
  have hgW : HT wn gw tb [.pointer (some ⟨g, 0, none⟩)] := HT.keptH HGW0.out hk (fun e => e.elim (fun e => HNE0.out.2.2.1 e) (fun e => HNE0.out.2.2.2 e))
  have HC1 := Lib.hid hcW
  have HGW1 := Lib.hid hgW
  have HNE1 : Hid (gc ≠ g ∧ v1.ownBlock ≠ some gc ∧ gw ≠ g ∧ v1.ownBlock ≠ some gw) := ⟨HNE0.out.1, fun e => by rcases ho gc e with h | h; exact HNE0.out.2.1 h; have := HC0.out.lt; omega, HNE0.out.2.2.1, fun e => by rcases ho gw e with h | h; exact HNE0.out.2.2.2 h; have := HGW0.out.lt; omega⟩
  clear hp hk ho hcW hgW
  generalize wn = W1 at *
  go_wp2_with fail
  refine wp_region_bl 5 (by kernel_rfl) ?_
  refine wpAnyU_take (i := 0) (oi := { dst := some 20, op := Op.load 83 (Operand.tmp 1), type := 83, pos := "write.go:58", after := #[], guard := none }) (v := (.pointer (some ⟨g, 0, none⟩))) rfl (by kernel_rfl) (by kernel_rfl) (by kernel_rfl) (by kernel_rfl) (by kernel_rfl) (fun _ _ _ h => h) (BL.cls W1) ?_ ?_
  · refine Or.inl ⟨rfl, fun w hSw => ?_⟩
    have e0 := BL.cell hSw (HGW1.out.cell (j := 0) rfl)
    exact EffR.same (by go_simp)
  try simp only [Act.put, List.setIfInBounds_toArray, List.set_cons_zero, List.set_cons_succ]
  refine wpAnyU_take (i := 1) (oi := { dst := some 21, op := Op.nilCheck (Operand.tmp 20), type := 0, pos := "write.go:58", after := #[{ on := 0, ground := Ground.data }], guard := none }) (v := (.pointer (some ⟨g, 0, none⟩))) rfl (by kernel_rfl) (by kernel_rfl) (by kernel_rfl) (by kernel_rfl) (by kernel_rfl) (fun _ _ _ h => h) (BL.cls W1) ?_ ?_
  · refine Or.inl ⟨rfl, fun w hSw => ?_⟩
    exact EffR.same (by go_simp)
  try simp only [Act.put, List.setIfInBounds_toArray, List.set_cons_zero, List.set_cons_succ]
  refine wpAnyU_take (i := 2) (oi := { dst := some 22, op := Op.fieldAddr 80 (Operand.tmp 21) 0, type := 0, pos := "write.go:58", after := #[{ on := 1, ground := Ground.data }], guard := none }) (v := (.pointer (some ⟨g, 0, none⟩))) rfl (by kernel_rfl) (by kernel_rfl) (by kernel_rfl) (by kernel_rfl) (by kernel_rfl) (fun _ _ _ h => h) (BL.cls W1) ?_ ?_
  · refine Or.inl ⟨rfl, fun w hSw => ?_⟩
    exact EffR.same (by go_simp)
  try simp only [Act.put, List.setIfInBounds_toArray, List.set_cons_zero, List.set_cons_succ]
  refine wpAnyU_take (i := 3) (oi := { dst := some 23, op := Op.fieldAddr 93 (Operand.tmp 2) 6, type := 0, pos := "write.go:58", after := #[], guard := none }) (v := (.pointer (some ⟨gc, 6, none⟩))) rfl (by kernel_rfl) (by kernel_rfl) (by kernel_rfl) (by kernel_rfl) (by kernel_rfl) (fun _ _ _ h => h) (BL.cls W1) ?_ ?_
  · refine Or.inl ⟨rfl, fun w hSw => ?_⟩
    exact EffR.same (by go_simp)
  try simp only [Act.put, List.setIfInBounds_toArray, List.set_cons_zero, List.set_cons_succ]
  refine wpAnyU_take (i := 4) (oi := { dst := some 24, op := Op.load 4 (Operand.tmp 23), type := 4, pos := "write.go:58", after := #[{ on := 3, ground := Ground.data }], guard := none }) (v := (.bool c.off)) rfl (by kernel_rfl) (by kernel_rfl) (by kernel_rfl) (by kernel_rfl) (by kernel_rfl) (fun _ _ _ h => h) (BL.cls W1) ?_ ?_
  · refine Or.inl ⟨rfl, fun w hSw => ?_⟩
    have e0 := BL.cell hSw (HC1.out.cell (j := 6) rfl)
    exact EffR.same (by go_simp)
  try simp only [Act.put, List.setIfInBounds_toArray, List.set_cons_zero, List.set_cons_succ]
  refine wpAnyU_last (o := { dst := some 25, op := Op.call { callee := Callee.value (Operand.func 125), args := #[Operand.tmp 22, Operand.tmp 24], argTypes := #[78, 4] }, type := 0, pos := "write.go:58", after := #[{ on := 2, ground := Ground.data }, { on := 4, ground := Ground.data }], guard := none }) (by kernel_rfl) (by kernel_rfl) rfl (fun w1 hb1 K hK => ?_)
  go_simp
  have hp1 := HP1.out.below hb1
  refine (WMark_any w1 g v1 (l ++ encIs [c.no, c.buyer, c.seller, c.inst, c.qty, c.price]) lg c.off hp1 (by have h1 := HLEN.out; have h2 := encIs_length [c.no, c.buyer, c.seller, c.inst, c.qty, c.price] (fun n hn => HR.out n (by rw [show [c.no, c.buyer, c.seller, c.inst, c.qty, c.price] = [] ++ ([c.no, c.buyer, c.seller, c.inst, c.qty, c.price] ++ []) from rfl]; exact List.mem_append_right _ (List.mem_append_left _ hn))); simp at h1 h2 ⊢; omega)).mono ?_
  rintro e wn ⟨rfl, hpo⟩
  have HPO := Lib.hid (hpo.pre hb1)
  clear hp1 hpo hb1
  refine hK.out _ _ ?_
  clear hK K
  try simp only [Act.put, List.setIfInBounds_toArray, List.set_cons_zero, List.set_cons_succ]
  have hf := PWPost.next ⟨HP1.out, HK1.out, HO1.out⟩ HPO.out
  rw [List.append_assoc] at hf
  clear HPO
  go_wp2_with fail
  go_end0
  exact ⟨rfl, PWPost.pre (by rw [← HGC.out]; exact HBX.out) hf⟩

set_option maxRecDepth 100000 in
set_option maxHeartbeats 1600000 in
theorem wpos_any (w : World) (g : Nat) (v : Value) (l : List UInt8) (lg : Bool) (gw : Nat) (c : PoT) (hp : PW tw rs w g v l lg) (hgw : HT w gw tb [.pointer (some ⟨g, 0, none⟩)]) (hgn : gw ≠ g ∧ v.ownBlock ≠ some gw) (hr : okI c.ints) (hlen : l.length ≤ 35184372088832) :
    Calls Tryz.prog 127 #[.agg #[.int .i64 c.who, .int .i64 c.inst, .int .i64 c.qty, .int .i64 c.cost], .pointer (some ⟨gw, 0, none⟩)] w fun e w' => e = .returned (.tuple #[]) ∧ PWPost tw rs w g v (l ++ c.bytes) lg w' := by
  have hbx := (Below.refl w.heap.size w).alloc (Nat.le_refl _) (.cells #[.int .i64 c.who, .int .i64 c.inst, .int .i64 c.qty, .int .i64 c.cost] 98)
  have hc : HT (w.alloc (.cells #[.int .i64 c.who, .int .i64 c.inst, .int .i64 c.qty, .int .i64 c.cost] 98)) w.heap.size 98 [.int .i64 c.who, .int .i64 c.inst, .int .i64 c.qty, .int .i64 c.cost] := HT.new (w := w)
  have hng : w.heap.size ≠ g := by have := hp.lt; omega
  have hnv : v.ownBlock ≠ some w.heap.size := fun e => by have := (hp.row _ e).2; omega
  have HP0 := Lib.hid (hp.below hbx)
  have HBX := Lib.hid hbx
  have HC0 := Lib.hid hc
  have HGW0 := Lib.hid (hgw.below hbx)
  have HNE0 : Hid (w.heap.size ≠ g ∧ v.ownBlock ≠ some w.heap.size ∧ gw ≠ g ∧ v.ownBlock ≠ some gw) := ⟨hng, hnv, hgn.1, hgn.2⟩
  have HR : Hid (okI [c.who, c.inst, c.qty, c.cost]) := hr
  have HLEN := Lib.hid hlen
  show Calls _ _ _ _ fun e w' => e = .returned (.tuple #[]) ∧ PWPost tw rs w g v (l ++ encIs [c.who, c.inst, c.qty, c.cost]) lg w'
  clear hbx hc hng hnv hp hr hlen hgw hgn
  go_enter Tryz.func127, Tryz.ntmps127
  go_wp2_with fail
  generalize hW : (w.alloc (.cells #[.int .i64 c.who, .int .i64 c.inst, .int .i64 c.qty, .int .i64 c.cost] 98)) = W0 at *
  clear hW
  have HK0 : Hid (Kept (fun k => k = g ∨ v.ownBlock = some k) W0 W0) := Kept.refl _ _
  have HO0 : Hid (∀ k, v.ownBlock = some k → v.ownBlock = some k ∨ W0.heap.size ≤ k) := fun k h => .inl h
  generalize hgc : w.heap.size = gc at *
  have HGC : Hid (gc = w.heap.size) := hgc.symm
  clear hgc
  refine wp_region_bl 14 (by kernel_rfl) ?_
  refine wpAnyU_take (i := 0) (oi := { dst := some 3, op := Op.load 83 (Operand.tmp 1), type := 83, pos := "write.go:60", after := #[], guard := none }) (v := (.pointer (some ⟨g, 0, none⟩))) rfl (by kernel_rfl) (by kernel_rfl) (by kernel_rfl) (by kernel_rfl) (by kernel_rfl) (fun _ _ _ h => h) (BL.cls W0) ?_ ?_
  · refine Or.inl ⟨rfl, fun w hSw => ?_⟩
    have e0 := BL.cell hSw (HGW0.out.cell (j := 0) rfl)
    exact EffR.same (by go_simp)
  try simp only [Act.put, List.setIfInBounds_toArray, List.set_cons_zero, List.set_cons_succ]
  refine wpAnyU_take (i := 1) (oi := { dst := some 4, op := Op.nilCheck (Operand.tmp 3), type := 0, pos := "write.go:60", after := #[{ on := 0, ground := Ground.data }], guard := none }) (v := (.pointer (some ⟨g, 0, none⟩))) rfl (by kernel_rfl) (by kernel_rfl) (by kernel_rfl) (by kernel_rfl) (by kernel_rfl) (fun _ _ _ h => h) (BL.cls W0) ?_ ?_
  · refine Or.inl ⟨rfl, fun w hSw => ?_⟩
    exact EffR.same (by go_simp)
  try simp only [Act.put, List.setIfInBounds_toArray, List.set_cons_zero, List.set_cons_succ]
  refine wpAnyU_take (i := 2) (oi := { dst := some 5, op := Op.fieldAddr 80 (Operand.tmp 4) 0, type := 0, pos := "write.go:60", after := #[{ on := 1, ground := Ground.data }], guard := none }) (v := (.pointer (some ⟨g, 0, none⟩))) rfl (by kernel_rfl) (by kernel_rfl) (by kernel_rfl) (by kernel_rfl) (by kernel_rfl) (fun _ _ _ h => h) (BL.cls W0) ?_ ?_
  · refine Or.inl ⟨rfl, fun w hSw => ?_⟩
    exact EffR.same (by go_simp)
  try simp only [Act.put, List.setIfInBounds_toArray, List.set_cons_zero, List.set_cons_succ]
  refine wpAnyU_take (i := 3) (oi := { dst := some 6, op := Op.fieldAddr 98 (Operand.tmp 2) 0, type := 0, pos := "write.go:60", after := #[], guard := none }) (v := (.pointer (some ⟨gc, 0, none⟩))) rfl (by kernel_rfl) (by kernel_rfl) (by kernel_rfl) (by kernel_rfl) (by kernel_rfl) (fun _ _ _ h => h) (BL.cls W0) ?_ ?_
  · refine Or.inl ⟨rfl, fun w hSw => ?_⟩
    exact EffR.same (by go_simp)
  try simp only [Act.put, List.setIfInBounds_toArray, List.set_cons_zero, List.set_cons_succ]
  refine wpAnyU_take (i := 4) (oi := { dst := some 7, op := Op.fieldAddr 96 (Operand.tmp 6) 0, type := 0, pos := "write.go:60", after := #[{ on := 3, ground := Ground.data }], guard := none }) (v := (.pointer (some ⟨gc, 0, none⟩))) rfl (by kernel_rfl) (by kernel_rfl) (by kernel_rfl) (by kernel_rfl) (by kernel_rfl) (fun _ _ _ h => h) (BL.cls W0) ?_ ?_
  · refine Or.inl ⟨rfl, fun w hSw => ?_⟩
    exact EffR.same (by go_simp)
  try simp only [Act.put, List.setIfInBounds_toArray, List.set_cons_zero, List.set_cons_succ]
  refine wpAnyU_take (i := 5) (oi := { dst := some 8, op := Op.load 3 (Operand.tmp 7), type := 3, pos := "write.go:60", after := #[{ on := 4, ground := Ground.data }], guard := none }) (v := (.int .i64 c.who)) rfl (by kernel_rfl) (by kernel_rfl) (by kernel_rfl) (by kernel_rfl) (by kernel_rfl) (fun _ _ _ h => h) (BL.cls W0) ?_ ?_
  · refine Or.inl ⟨rfl, fun w hSw => ?_⟩
    have e0 := BL.cell hSw (HC0.out.cell (j := 0) rfl)
    exact EffR.same (by go_simp)
  try simp only [Act.put, List.setIfInBounds_toArray, List.set_cons_zero, List.set_cons_succ]
  refine wpAnyU_take (i := 6) (oi := { dst := some 9, op := Op.fieldAddr 98 (Operand.tmp 2) 0, type := 0, pos := "write.go:60", after := #[], guard := none }) (v := (.pointer (some ⟨gc, 0, none⟩))) rfl (by kernel_rfl) (by kernel_rfl) (by kernel_rfl) (by kernel_rfl) (by kernel_rfl) (fun _ _ _ h => h) (BL.cls W0) ?_ ?_
  · refine Or.inl ⟨rfl, fun w hSw => ?_⟩
    exact EffR.same (by go_simp)
  try simp only [Act.put, List.setIfInBounds_toArray, List.set_cons_zero, List.set_cons_succ]
  refine wpAnyU_take (i := 7) (oi := { dst := some 10, op := Op.fieldAddr 96 (Operand.tmp 9) 1, type := 0, pos := "write.go:60", after := #[{ on := 6, ground := Ground.data }], guard := none }) (v := (.pointer (some ⟨gc, 1, none⟩))) rfl (by kernel_rfl) (by kernel_rfl) (by kernel_rfl) (by kernel_rfl) (by kernel_rfl) (fun _ _ _ h => h) (BL.cls W0) ?_ ?_
  · refine Or.inl ⟨rfl, fun w hSw => ?_⟩
    exact EffR.same (by go_simp)
  try simp only [Act.put, List.setIfInBounds_toArray, List.set_cons_zero, List.set_cons_succ]
  refine wpAnyU_take (i := 8) (oi := { dst := some 11, op := Op.load 3 (Operand.tmp 10), type := 3, pos := "write.go:60", after := #[{ on := 7, ground := Ground.data }], guard := none }) (v := (.int .i64 c.inst)) rfl (by kernel_rfl) (by kernel_rfl) (by kernel_rfl) (by kernel_rfl) (by kernel_rfl) (fun _ _ _ h => h) (BL.cls W0) ?_ ?_
  · refine Or.inl ⟨rfl, fun w hSw => ?_⟩
    have e0 := BL.cell hSw (HC0.out.cell (j := 1) rfl)
    exact EffR.same (by go_simp)
  try simp only [Act.put, List.setIfInBounds_toArray, List.set_cons_zero, List.set_cons_succ]
  refine wpAnyU_take (i := 9) (oi := { dst := some 12, op := Op.fieldAddr 98 (Operand.tmp 2) 1, type := 0, pos := "write.go:60", after := #[], guard := none }) (v := (.pointer (some ⟨gc, 2, none⟩))) rfl (by kernel_rfl) (by kernel_rfl) (by kernel_rfl) (by kernel_rfl) (by kernel_rfl) (fun _ _ _ h => h) (BL.cls W0) ?_ ?_
  · refine Or.inl ⟨rfl, fun w hSw => ?_⟩
    exact EffR.same (by go_simp)
  try simp only [Act.put, List.setIfInBounds_toArray, List.set_cons_zero, List.set_cons_succ]
  refine wpAnyU_take (i := 10) (oi := { dst := some 13, op := Op.load 3 (Operand.tmp 12), type := 3, pos := "write.go:60", after := #[{ on := 9, ground := Ground.data }], guard := none }) (v := (.int .i64 c.qty)) rfl (by kernel_rfl) (by kernel_rfl) (by kernel_rfl) (by kernel_rfl) (by kernel_rfl) (fun _ _ _ h => h) (BL.cls W0) ?_ ?_
  · refine Or.inl ⟨rfl, fun w hSw => ?_⟩
    have e0 := BL.cell hSw (HC0.out.cell (j := 2) rfl)
    exact EffR.same (by go_simp)
  try simp only [Act.put, List.setIfInBounds_toArray, List.set_cons_zero, List.set_cons_succ]
  refine wpAnyU_take (i := 11) (oi := { dst := some 14, op := Op.fieldAddr 98 (Operand.tmp 2) 2, type := 0, pos := "write.go:60", after := #[], guard := none }) (v := (.pointer (some ⟨gc, 3, none⟩))) rfl (by kernel_rfl) (by kernel_rfl) (by kernel_rfl) (by kernel_rfl) (by kernel_rfl) (fun _ _ _ h => h) (BL.cls W0) ?_ ?_
  · refine Or.inl ⟨rfl, fun w hSw => ?_⟩
    exact EffR.same (by go_simp)
  try simp only [Act.put, List.setIfInBounds_toArray, List.set_cons_zero, List.set_cons_succ]
  refine wpAnyU_take (i := 12) (oi := { dst := some 15, op := Op.load 3 (Operand.tmp 14), type := 3, pos := "write.go:60", after := #[{ on := 11, ground := Ground.data }], guard := none }) (v := (.int .i64 c.cost)) rfl (by kernel_rfl) (by kernel_rfl) (by kernel_rfl) (by kernel_rfl) (by kernel_rfl) (fun _ _ _ h => h) (BL.cls W0) ?_ ?_
  · refine Or.inl ⟨rfl, fun w hSw => ?_⟩
    have e0 := BL.cell hSw (HC0.out.cell (j := 3) rfl)
    exact EffR.same (by go_simp)
  try simp only [Act.put, List.setIfInBounds_toArray, List.set_cons_zero, List.set_cons_succ]
  refine wpAnyU_ready (rs := [13]) (by kernel_rfl) (by simp) ?_
  refine AllReadyU.cons (o := { dst := some 16, op := Op.buildSlice 155 4 #[(0, Operand.tmp 8), (1, Operand.tmp 11), (2, Operand.tmp 13), (3, Operand.tmp 15)], type := 155, pos := "write.go:60", after := #[{ on := 5, ground := Ground.data }, { on := 8, ground := Ground.data }, { on := 10, ground := Ground.data }, { on := 12, ground := Ground.data }], guard := none }) rfl (fun wA13 hA13 K hK => ?_) AllReadyU.nil
  go_simp
  refine hK.out _ _ (BL (wA13.alloc (.cells #[.int .i64 c.who, .int .i64 c.inst, .int .i64 c.qty, .int .i64 c.cost] 3))) (BL.cls' (hA13.alloc (Below.size hA13) _)) (Below.refl _ _) ?_
  clear hK K
  try simp only [Act.put, List.setIfInBounds_toArray, List.set_cons_zero, List.set_cons_succ]
  refine wpAnyU_last (o := { dst := some 17, op := Op.call { callee := Callee.value (Operand.func 55), args := #[Operand.tmp 5, Operand.tmp 16], argTypes := #[78, 155] }, type := 0, pos := "write.go:60", after := #[{ on := 2, ground := Ground.data }, { on := 13, ground := Ground.data }], guard := none }) (by kernel_rfl) (by kernel_rfl) rfl (fun w1 hb1 K hK => ?_)
  go_simp
  have hbl : Below W0.heap.size W0 w1 := (Below.alloc hA13 hA13.size (.cells #[.int .i64 c.who, .int .i64 c.inst, .int .i64 c.qty, .int .i64 c.cost] 3)).trans (hb1.mono (by simp; exact Nat.le_succ_of_le hA13.size))
  have hp1 := HP0.out.below hbl
  have his : Is (wA13.alloc (.cells #[.int .i64 c.who, .int .i64 c.inst, .int .i64 c.qty, .int .i64 c.cost] 3)) (.slice (some ⟨wA13.heap.size, 0, none⟩) 4 4) [c.who, c.inst, c.qty, c.cost] := Is.block (l := [c.who, c.inst, c.qty, c.cost]) (heap_new rfl) (Nat.le_refl _) (by simp [maxLen])
  have his1 := his.mono hb1
  refine (WInt_any w1 g v l lg _ _ hp1 his1 (fun w2 hk => his1.kept1 hk (fun _ k hi e => ?_)) (fun n hn => HR.out n (by rw [show [c.who, c.inst, c.qty, c.cost] = [] ++ ([c.who, c.inst, c.qty, c.cost] ++ []) from rfl]; exact List.mem_append_right _ (List.mem_append_left _ hn))) (by have := HLEN.out; simp; omega)).mono ?_
  · obtain ⟨ad, n, c, hv, rfl⟩ := hi
    injection hv with h5
    injection h5 with h5
    subst h5
    have h6 := hA13.size
    rcases e with e | e'
    · have := HP0.out.lt
      simp only at e
      omega
    · have := (HP0.out.row _ e').2
      simp only at this
      omega
  rintro e wn ⟨rfl, hpo⟩
  have HPO := Lib.hid (hpo.pre hbl)
  clear hbl hp1 his his1 hpo hb1
  refine hK.out _ _ ?_
  clear hK K
  try simp only [Act.put, List.setIfInBounds_toArray, List.set_cons_zero, List.set_cons_succ]
  have hf := PWPost.next ⟨HP0.out, HK0.out, HO0.out⟩ HPO.out
  clear HPO
  go_wp2_with fail
  go_end0
  exact ⟨rfl, PWPost.pre (by rw [← HGC.out]; exact HBX.out) hf⟩

set_option maxRecDepth 100000 in
set_option maxHeartbeats 1600000 in
theorem wbal_any (w : World) (g : Nat) (v : Value) (l : List UInt8) (lg : Bool) (gw : Nat) (c : BaT) (hp : PW tw rs w g v l lg) (hgw : HT w gw tb [.pointer (some ⟨g, 0, none⟩)]) (hgn : gw ≠ g ∧ v.ownBlock ≠ some gw) (hr : okI c.ints) (hlen : l.length ≤ 35184372088832) :
    Calls Tryz.prog 59 #[.agg #[.int .i64 c.kind, .int .i64 c.who, .int .i64 c.cur, .int .i64 c.sum], .pointer (some ⟨gw, 0, none⟩)] w fun e w' => e = .returned (.tuple #[]) ∧ PWPost tw rs w g v (l ++ c.bytes) lg w' := by
  have hbx := (Below.refl w.heap.size w).alloc (Nat.le_refl _) (.cells #[.int .i64 c.kind, .int .i64 c.who, .int .i64 c.cur, .int .i64 c.sum] 102)
  have hc : HT (w.alloc (.cells #[.int .i64 c.kind, .int .i64 c.who, .int .i64 c.cur, .int .i64 c.sum] 102)) w.heap.size 102 [.int .i64 c.kind, .int .i64 c.who, .int .i64 c.cur, .int .i64 c.sum] := HT.new (w := w)
  have hng : w.heap.size ≠ g := by have := hp.lt; omega
  have hnv : v.ownBlock ≠ some w.heap.size := fun e => by have := (hp.row _ e).2; omega
  have HP0 := Lib.hid (hp.below hbx)
  have HBX := Lib.hid hbx
  have HC0 := Lib.hid hc
  have HGW0 := Lib.hid (hgw.below hbx)
  have HNE0 : Hid (w.heap.size ≠ g ∧ v.ownBlock ≠ some w.heap.size ∧ gw ≠ g ∧ v.ownBlock ≠ some gw) := ⟨hng, hnv, hgn.1, hgn.2⟩
  have HR : Hid (okI [c.kind, c.who, c.cur, c.sum]) := hr
  have HLEN := Lib.hid hlen
  show Calls _ _ _ _ fun e w' => e = .returned (.tuple #[]) ∧ PWPost tw rs w g v (l ++ encIs [c.kind, c.who, c.cur, c.sum]) lg w'
  clear hbx hc hng hnv hp hr hlen hgw hgn
  go_enter Tryz.func59, Tryz.ntmps59
  go_wp2_with fail
  generalize hW : (w.alloc (.cells #[.int .i64 c.kind, .int .i64 c.who, .int .i64 c.cur, .int .i64 c.sum] 102)) = W0 at *
  clear hW
  have HK0 : Hid (Kept (fun k => k = g ∨ v.ownBlock = some k) W0 W0) := Kept.refl _ _
  have HO0 : Hid (∀ k, v.ownBlock = some k → v.ownBlock = some k ∨ W0.heap.size ≤ k) := fun k h => .inl h
  generalize hgc : w.heap.size = gc at *
  have HGC : Hid (gc = w.heap.size) := hgc.symm
  clear hgc
  refine wp_region_bl 15 (by kernel_rfl) ?_
  refine wpAnyU_take (i := 0) (oi := { dst := some 3, op := Op.load 83 (Operand.tmp 1), type := 83, pos := "write.go:68", after := #[], guard := none }) (v := (.pointer (some ⟨g, 0, none⟩))) rfl (by kernel_rfl) (by kernel_rfl) (by kernel_rfl) (by kernel_rfl) (by kernel_rfl) (fun _ _ _ h => h) (BL.cls W0) ?_ ?_
  · refine Or.inl ⟨rfl, fun w hSw => ?_⟩
    have e0 := BL.cell hSw (HGW0.out.cell (j := 0) rfl)
    exact EffR.same (by go_simp)
  try simp only [Act.put, List.setIfInBounds_toArray, List.set_cons_zero, List.set_cons_succ]
  refine wpAnyU_take (i := 1) (oi := { dst := some 4, op := Op.nilCheck (Operand.tmp 3), type := 0, pos := "write.go:68", after := #[{ on := 0, ground := Ground.data }], guard := none }) (v := (.pointer (some ⟨g, 0, none⟩))) rfl (by kernel_rfl) (by kernel_rfl) (by kernel_rfl) (by kernel_rfl) (by kernel_rfl) (fun _ _ _ h => h) (BL.cls W0) ?_ ?_
  · refine Or.inl ⟨rfl, fun w hSw => ?_⟩
    exact EffR.same (by go_simp)
  try simp only [Act.put, List.setIfInBounds_toArray, List.set_cons_zero, List.set_cons_succ]
  refine wpAnyU_take (i := 2) (oi := { dst := some 5, op := Op.fieldAddr 80 (Operand.tmp 4) 0, type := 0, pos := "write.go:68", after := #[{ on := 1, ground := Ground.data }], guard := none }) (v := (.pointer (some ⟨g, 0, none⟩))) rfl (by kernel_rfl) (by kernel_rfl) (by kernel_rfl) (by kernel_rfl) (by kernel_rfl) (fun _ _ _ h => h) (BL.cls W0) ?_ ?_
  · refine Or.inl ⟨rfl, fun w hSw => ?_⟩
    exact EffR.same (by go_simp)
  try simp only [Act.put, List.setIfInBounds_toArray, List.set_cons_zero, List.set_cons_succ]
  refine wpAnyU_take (i := 3) (oi := { dst := some 6, op := Op.fieldAddr 102 (Operand.tmp 2) 0, type := 0, pos := "write.go:68", after := #[], guard := none }) (v := (.pointer (some ⟨gc, 0, none⟩))) rfl (by kernel_rfl) (by kernel_rfl) (by kernel_rfl) (by kernel_rfl) (by kernel_rfl) (fun _ _ _ h => h) (BL.cls W0) ?_ ?_
  · refine Or.inl ⟨rfl, fun w hSw => ?_⟩
    exact EffR.same (by go_simp)
  try simp only [Act.put, List.setIfInBounds_toArray, List.set_cons_zero, List.set_cons_succ]
  refine wpAnyU_take (i := 4) (oi := { dst := some 7, op := Op.fieldAddr 100 (Operand.tmp 6) 0, type := 0, pos := "write.go:68", after := #[{ on := 3, ground := Ground.data }], guard := none }) (v := (.pointer (some ⟨gc, 0, none⟩))) rfl (by kernel_rfl) (by kernel_rfl) (by kernel_rfl) (by kernel_rfl) (by kernel_rfl) (fun _ _ _ h => h) (BL.cls W0) ?_ ?_
  · refine Or.inl ⟨rfl, fun w hSw => ?_⟩
    exact EffR.same (by go_simp)
  try simp only [Act.put, List.setIfInBounds_toArray, List.set_cons_zero, List.set_cons_succ]
  refine wpAnyU_take (i := 5) (oi := { dst := some 8, op := Op.load 3 (Operand.tmp 7), type := 3, pos := "write.go:68", after := #[{ on := 4, ground := Ground.data }], guard := none }) (v := (.int .i64 c.kind)) rfl (by kernel_rfl) (by kernel_rfl) (by kernel_rfl) (by kernel_rfl) (by kernel_rfl) (fun _ _ _ h => h) (BL.cls W0) ?_ ?_
  · refine Or.inl ⟨rfl, fun w hSw => ?_⟩
    have e0 := BL.cell hSw (HC0.out.cell (j := 0) rfl)
    exact EffR.same (by go_simp)
  try simp only [Act.put, List.setIfInBounds_toArray, List.set_cons_zero, List.set_cons_succ]
  refine wpAnyU_take (i := 6) (oi := { dst := some 9, op := Op.fieldAddr 102 (Operand.tmp 2) 0, type := 0, pos := "write.go:68", after := #[], guard := none }) (v := (.pointer (some ⟨gc, 0, none⟩))) rfl (by kernel_rfl) (by kernel_rfl) (by kernel_rfl) (by kernel_rfl) (by kernel_rfl) (fun _ _ _ h => h) (BL.cls W0) ?_ ?_
  · refine Or.inl ⟨rfl, fun w hSw => ?_⟩
    exact EffR.same (by go_simp)
  try simp only [Act.put, List.setIfInBounds_toArray, List.set_cons_zero, List.set_cons_succ]
  refine wpAnyU_take (i := 7) (oi := { dst := some 10, op := Op.fieldAddr 100 (Operand.tmp 9) 1, type := 0, pos := "write.go:68", after := #[{ on := 6, ground := Ground.data }], guard := none }) (v := (.pointer (some ⟨gc, 1, none⟩))) rfl (by kernel_rfl) (by kernel_rfl) (by kernel_rfl) (by kernel_rfl) (by kernel_rfl) (fun _ _ _ h => h) (BL.cls W0) ?_ ?_
  · refine Or.inl ⟨rfl, fun w hSw => ?_⟩
    exact EffR.same (by go_simp)
  try simp only [Act.put, List.setIfInBounds_toArray, List.set_cons_zero, List.set_cons_succ]
  refine wpAnyU_take (i := 8) (oi := { dst := some 11, op := Op.load 3 (Operand.tmp 10), type := 3, pos := "write.go:68", after := #[{ on := 7, ground := Ground.data }], guard := none }) (v := (.int .i64 c.who)) rfl (by kernel_rfl) (by kernel_rfl) (by kernel_rfl) (by kernel_rfl) (by kernel_rfl) (fun _ _ _ h => h) (BL.cls W0) ?_ ?_
  · refine Or.inl ⟨rfl, fun w hSw => ?_⟩
    have e0 := BL.cell hSw (HC0.out.cell (j := 1) rfl)
    exact EffR.same (by go_simp)
  try simp only [Act.put, List.setIfInBounds_toArray, List.set_cons_zero, List.set_cons_succ]
  refine wpAnyU_take (i := 9) (oi := { dst := some 12, op := Op.fieldAddr 102 (Operand.tmp 2) 0, type := 0, pos := "write.go:68", after := #[], guard := none }) (v := (.pointer (some ⟨gc, 0, none⟩))) rfl (by kernel_rfl) (by kernel_rfl) (by kernel_rfl) (by kernel_rfl) (by kernel_rfl) (fun _ _ _ h => h) (BL.cls W0) ?_ ?_
  · refine Or.inl ⟨rfl, fun w hSw => ?_⟩
    exact EffR.same (by go_simp)
  try simp only [Act.put, List.setIfInBounds_toArray, List.set_cons_zero, List.set_cons_succ]
  refine wpAnyU_take (i := 10) (oi := { dst := some 13, op := Op.fieldAddr 100 (Operand.tmp 12) 2, type := 0, pos := "write.go:68", after := #[{ on := 9, ground := Ground.data }], guard := none }) (v := (.pointer (some ⟨gc, 2, none⟩))) rfl (by kernel_rfl) (by kernel_rfl) (by kernel_rfl) (by kernel_rfl) (by kernel_rfl) (fun _ _ _ h => h) (BL.cls W0) ?_ ?_
  · refine Or.inl ⟨rfl, fun w hSw => ?_⟩
    exact EffR.same (by go_simp)
  try simp only [Act.put, List.setIfInBounds_toArray, List.set_cons_zero, List.set_cons_succ]
  refine wpAnyU_take (i := 11) (oi := { dst := some 14, op := Op.load 3 (Operand.tmp 13), type := 3, pos := "write.go:68", after := #[{ on := 10, ground := Ground.data }], guard := none }) (v := (.int .i64 c.cur)) rfl (by kernel_rfl) (by kernel_rfl) (by kernel_rfl) (by kernel_rfl) (by kernel_rfl) (fun _ _ _ h => h) (BL.cls W0) ?_ ?_
  · refine Or.inl ⟨rfl, fun w hSw => ?_⟩
    have e0 := BL.cell hSw (HC0.out.cell (j := 2) rfl)
    exact EffR.same (by go_simp)
  try simp only [Act.put, List.setIfInBounds_toArray, List.set_cons_zero, List.set_cons_succ]
  refine wpAnyU_take (i := 12) (oi := { dst := some 15, op := Op.fieldAddr 102 (Operand.tmp 2) 1, type := 0, pos := "write.go:68", after := #[], guard := none }) (v := (.pointer (some ⟨gc, 3, none⟩))) rfl (by kernel_rfl) (by kernel_rfl) (by kernel_rfl) (by kernel_rfl) (by kernel_rfl) (fun _ _ _ h => h) (BL.cls W0) ?_ ?_
  · refine Or.inl ⟨rfl, fun w hSw => ?_⟩
    exact EffR.same (by go_simp)
  try simp only [Act.put, List.setIfInBounds_toArray, List.set_cons_zero, List.set_cons_succ]
  refine wpAnyU_take (i := 13) (oi := { dst := some 16, op := Op.load 3 (Operand.tmp 15), type := 3, pos := "write.go:68", after := #[{ on := 12, ground := Ground.data }], guard := none }) (v := (.int .i64 c.sum)) rfl (by kernel_rfl) (by kernel_rfl) (by kernel_rfl) (by kernel_rfl) (by kernel_rfl) (fun _ _ _ h => h) (BL.cls W0) ?_ ?_
  · refine Or.inl ⟨rfl, fun w hSw => ?_⟩
    have e0 := BL.cell hSw (HC0.out.cell (j := 3) rfl)
    exact EffR.same (by go_simp)
  try simp only [Act.put, List.setIfInBounds_toArray, List.set_cons_zero, List.set_cons_succ]
  refine wpAnyU_ready (rs := [14]) (by kernel_rfl) (by simp) ?_
  refine AllReadyU.cons (o := { dst := some 17, op := Op.buildSlice 155 4 #[(0, Operand.tmp 8), (1, Operand.tmp 11), (2, Operand.tmp 14), (3, Operand.tmp 16)], type := 155, pos := "write.go:68", after := #[{ on := 5, ground := Ground.data }, { on := 8, ground := Ground.data }, { on := 11, ground := Ground.data }, { on := 13, ground := Ground.data }], guard := none }) rfl (fun wA14 hA14 K hK => ?_) AllReadyU.nil
  go_simp
  refine hK.out _ _ (BL (wA14.alloc (.cells #[.int .i64 c.kind, .int .i64 c.who, .int .i64 c.cur, .int .i64 c.sum] 3))) (BL.cls' (hA14.alloc (Below.size hA14) _)) (Below.refl _ _) ?_
  clear hK K
  try simp only [Act.put, List.setIfInBounds_toArray, List.set_cons_zero, List.set_cons_succ]
  refine wpAnyU_last (o := { dst := some 18, op := Op.call { callee := Callee.value (Operand.func 55), args := #[Operand.tmp 5, Operand.tmp 17], argTypes := #[78, 155] }, type := 0, pos := "write.go:68", after := #[{ on := 2, ground := Ground.data }, { on := 14, ground := Ground.data }], guard := none }) (by kernel_rfl) (by kernel_rfl) rfl (fun w1 hb1 K hK => ?_)
  go_simp
  have hbl : Below W0.heap.size W0 w1 := (Below.alloc hA14 hA14.size (.cells #[.int .i64 c.kind, .int .i64 c.who, .int .i64 c.cur, .int .i64 c.sum] 3)).trans (hb1.mono (by simp; exact Nat.le_succ_of_le hA14.size))
  have hp1 := HP0.out.below hbl
  have his : Is (wA14.alloc (.cells #[.int .i64 c.kind, .int .i64 c.who, .int .i64 c.cur, .int .i64 c.sum] 3)) (.slice (some ⟨wA14.heap.size, 0, none⟩) 4 4) [c.kind, c.who, c.cur, c.sum] := Is.block (l := [c.kind, c.who, c.cur, c.sum]) (heap_new rfl) (Nat.le_refl _) (by simp [maxLen])
  have his1 := his.mono hb1
  refine (WInt_any w1 g v l lg _ _ hp1 his1 (fun w2 hk => his1.kept1 hk (fun _ k hi e => ?_)) (fun n hn => HR.out n (by rw [show [c.kind, c.who, c.cur, c.sum] = [] ++ ([c.kind, c.who, c.cur, c.sum] ++ []) from rfl]; exact List.mem_append_right _ (List.mem_append_left _ hn))) (by have := HLEN.out; simp; omega)).mono ?_
  · obtain ⟨ad, n, c, hv, rfl⟩ := hi
    injection hv with h5
    injection h5 with h5
    subst h5
    have h6 := hA14.size
    rcases e with e | e'
    · have := HP0.out.lt
      simp only at e
      omega
    · have := (HP0.out.row _ e').2
      simp only at this
      omega
  rintro e wn ⟨rfl, hpo⟩
  have HPO := Lib.hid (hpo.pre hbl)
  clear hbl hp1 his his1 hpo hb1
  refine hK.out _ _ ?_
  clear hK K
  try simp only [Act.put, List.setIfInBounds_toArray, List.set_cons_zero, List.set_cons_succ]
  have hf := PWPost.next ⟨HP0.out, HK0.out, HO0.out⟩ HPO.out
  clear HPO
  go_wp2_with fail
  go_end0
  exact ⟨rfl, PWPost.pre (by rw [← HGC.out]; exact HBX.out) hf⟩

set_option maxRecDepth 100000 in
set_option maxHeartbeats 1600000 in
theorem wple_any (w : World) (g : Nat) (v : Value) (l : List UInt8) (lg : Bool) (gw : Nat) (c : PlT) (hp : PW tw rs w g v l lg) (hgw : HT w gw tb [.pointer (some ⟨g, 0, none⟩)]) (hgn : gw ≠ g ∧ v.ownBlock ≠ some gw) (hr : okI c.ints) (hlen : l.length ≤ 35184372088832) :
    Calls Tryz.prog 61 #[.agg #[.int .i64 c.who, .int .i64 c.asset, .int .i64 c.units], .pointer (some ⟨gw, 0, none⟩)] w fun e w' => e = .returned (.tuple #[]) ∧ PWPost tw rs w g v (l ++ c.bytes) lg w' := by
  have hbx := (Below.refl w.heap.size w).alloc (Nat.le_refl _) (.cells #[.int .i64 c.who, .int .i64 c.asset, .int .i64 c.units] 104)
  have hc : HT (w.alloc (.cells #[.int .i64 c.who, .int .i64 c.asset, .int .i64 c.units] 104)) w.heap.size 104 [.int .i64 c.who, .int .i64 c.asset, .int .i64 c.units] := HT.new (w := w)
  have hng : w.heap.size ≠ g := by have := hp.lt; omega
  have hnv : v.ownBlock ≠ some w.heap.size := fun e => by have := (hp.row _ e).2; omega
  have HP0 := Lib.hid (hp.below hbx)
  have HBX := Lib.hid hbx
  have HC0 := Lib.hid hc
  have HGW0 := Lib.hid (hgw.below hbx)
  have HNE0 : Hid (w.heap.size ≠ g ∧ v.ownBlock ≠ some w.heap.size ∧ gw ≠ g ∧ v.ownBlock ≠ some gw) := ⟨hng, hnv, hgn.1, hgn.2⟩
  have HR : Hid (okI [c.who, c.asset, c.units]) := hr
  have HLEN := Lib.hid hlen
  show Calls _ _ _ _ fun e w' => e = .returned (.tuple #[]) ∧ PWPost tw rs w g v (l ++ encIs [c.who, c.asset, c.units]) lg w'
  clear hbx hc hng hnv hp hr hlen hgw hgn
  go_enter Tryz.func61, Tryz.ntmps61
  go_wp2_with fail
  generalize hW : (w.alloc (.cells #[.int .i64 c.who, .int .i64 c.asset, .int .i64 c.units] 104)) = W0 at *
  clear hW
  have HK0 : Hid (Kept (fun k => k = g ∨ v.ownBlock = some k) W0 W0) := Kept.refl _ _
  have HO0 : Hid (∀ k, v.ownBlock = some k → v.ownBlock = some k ∨ W0.heap.size ≤ k) := fun k h => .inl h
  generalize hgc : w.heap.size = gc at *
  have HGC : Hid (gc = w.heap.size) := hgc.symm
  clear hgc
  refine wp_region_bl 10 (by kernel_rfl) ?_
  refine wpAnyU_take (i := 0) (oi := { dst := some 3, op := Op.load 83 (Operand.tmp 1), type := 83, pos := "write.go:69", after := #[], guard := none }) (v := (.pointer (some ⟨g, 0, none⟩))) rfl (by kernel_rfl) (by kernel_rfl) (by kernel_rfl) (by kernel_rfl) (by kernel_rfl) (fun _ _ _ h => h) (BL.cls W0) ?_ ?_
  · refine Or.inl ⟨rfl, fun w hSw => ?_⟩
    have e0 := BL.cell hSw (HGW0.out.cell (j := 0) rfl)
    exact EffR.same (by go_simp)
  try simp only [Act.put, List.setIfInBounds_toArray, List.set_cons_zero, List.set_cons_succ]
  refine wpAnyU_take (i := 1) (oi := { dst := some 4, op := Op.nilCheck (Operand.tmp 3), type := 0, pos := "write.go:69", after := #[{ on := 0, ground := Ground.data }], guard := none }) (v := (.pointer (some ⟨g, 0, none⟩))) rfl (by kernel_rfl) (by kernel_rfl) (by kernel_rfl) (by kernel_rfl) (by kernel_rfl) (fun _ _ _ h => h) (BL.cls W0) ?_ ?_
  · refine Or.inl ⟨rfl, fun w hSw => ?_⟩
    exact EffR.same (by go_simp)
  try simp only [Act.put, List.setIfInBounds_toArray, List.set_cons_zero, List.set_cons_succ]
  refine wpAnyU_take (i := 2) (oi := { dst := some 5, op := Op.fieldAddr 80 (Operand.tmp 4) 0, type := 0, pos := "write.go:69", after := #[{ on := 1, ground := Ground.data }], guard := none }) (v := (.pointer (some ⟨g, 0, none⟩))) rfl (by kernel_rfl) (by kernel_rfl) (by kernel_rfl) (by kernel_rfl) (by kernel_rfl) (fun _ _ _ h => h) (BL.cls W0) ?_ ?_
  · refine Or.inl ⟨rfl, fun w hSw => ?_⟩
    exact EffR.same (by go_simp)
  try simp only [Act.put, List.setIfInBounds_toArray, List.set_cons_zero, List.set_cons_succ]
  refine wpAnyU_take (i := 3) (oi := { dst := some 6, op := Op.fieldAddr 104 (Operand.tmp 2) 0, type := 0, pos := "write.go:69", after := #[], guard := none }) (v := (.pointer (some ⟨gc, 0, none⟩))) rfl (by kernel_rfl) (by kernel_rfl) (by kernel_rfl) (by kernel_rfl) (by kernel_rfl) (fun _ _ _ h => h) (BL.cls W0) ?_ ?_
  · refine Or.inl ⟨rfl, fun w hSw => ?_⟩
    exact EffR.same (by go_simp)
  try simp only [Act.put, List.setIfInBounds_toArray, List.set_cons_zero, List.set_cons_succ]
  refine wpAnyU_take (i := 4) (oi := { dst := some 7, op := Op.load 3 (Operand.tmp 6), type := 3, pos := "write.go:69", after := #[{ on := 3, ground := Ground.data }], guard := none }) (v := (.int .i64 c.who)) rfl (by kernel_rfl) (by kernel_rfl) (by kernel_rfl) (by kernel_rfl) (by kernel_rfl) (fun _ _ _ h => h) (BL.cls W0) ?_ ?_
  · refine Or.inl ⟨rfl, fun w hSw => ?_⟩
    have e0 := BL.cell hSw (HC0.out.cell (j := 0) rfl)
    exact EffR.same (by go_simp)
  try simp only [Act.put, List.setIfInBounds_toArray, List.set_cons_zero, List.set_cons_succ]
  refine wpAnyU_take (i := 5) (oi := { dst := some 8, op := Op.fieldAddr 104 (Operand.tmp 2) 1, type := 0, pos := "write.go:69", after := #[], guard := none }) (v := (.pointer (some ⟨gc, 1, none⟩))) rfl (by kernel_rfl) (by kernel_rfl) (by kernel_rfl) (by kernel_rfl) (by kernel_rfl) (fun _ _ _ h => h) (BL.cls W0) ?_ ?_
  · refine Or.inl ⟨rfl, fun w hSw => ?_⟩
    exact EffR.same (by go_simp)
  try simp only [Act.put, List.setIfInBounds_toArray, List.set_cons_zero, List.set_cons_succ]
  refine wpAnyU_take (i := 6) (oi := { dst := some 9, op := Op.load 3 (Operand.tmp 8), type := 3, pos := "write.go:69", after := #[{ on := 5, ground := Ground.data }], guard := none }) (v := (.int .i64 c.asset)) rfl (by kernel_rfl) (by kernel_rfl) (by kernel_rfl) (by kernel_rfl) (by kernel_rfl) (fun _ _ _ h => h) (BL.cls W0) ?_ ?_
  · refine Or.inl ⟨rfl, fun w hSw => ?_⟩
    have e0 := BL.cell hSw (HC0.out.cell (j := 1) rfl)
    exact EffR.same (by go_simp)
  try simp only [Act.put, List.setIfInBounds_toArray, List.set_cons_zero, List.set_cons_succ]
  refine wpAnyU_take (i := 7) (oi := { dst := some 10, op := Op.fieldAddr 104 (Operand.tmp 2) 2, type := 0, pos := "write.go:69", after := #[], guard := none }) (v := (.pointer (some ⟨gc, 2, none⟩))) rfl (by kernel_rfl) (by kernel_rfl) (by kernel_rfl) (by kernel_rfl) (by kernel_rfl) (fun _ _ _ h => h) (BL.cls W0) ?_ ?_
  · refine Or.inl ⟨rfl, fun w hSw => ?_⟩
    exact EffR.same (by go_simp)
  try simp only [Act.put, List.setIfInBounds_toArray, List.set_cons_zero, List.set_cons_succ]
  refine wpAnyU_take (i := 8) (oi := { dst := some 11, op := Op.load 3 (Operand.tmp 10), type := 3, pos := "write.go:69", after := #[{ on := 7, ground := Ground.data }], guard := none }) (v := (.int .i64 c.units)) rfl (by kernel_rfl) (by kernel_rfl) (by kernel_rfl) (by kernel_rfl) (by kernel_rfl) (fun _ _ _ h => h) (BL.cls W0) ?_ ?_
  · refine Or.inl ⟨rfl, fun w hSw => ?_⟩
    have e0 := BL.cell hSw (HC0.out.cell (j := 2) rfl)
    exact EffR.same (by go_simp)
  try simp only [Act.put, List.setIfInBounds_toArray, List.set_cons_zero, List.set_cons_succ]
  refine wpAnyU_ready (rs := [9]) (by kernel_rfl) (by simp) ?_
  refine AllReadyU.cons (o := { dst := some 12, op := Op.buildSlice 155 3 #[(0, Operand.tmp 7), (1, Operand.tmp 9), (2, Operand.tmp 11)], type := 155, pos := "write.go:69", after := #[{ on := 4, ground := Ground.data }, { on := 6, ground := Ground.data }, { on := 8, ground := Ground.data }], guard := none }) rfl (fun wA9 hA9 K hK => ?_) AllReadyU.nil
  go_simp
  refine hK.out _ _ (BL (wA9.alloc (.cells #[.int .i64 c.who, .int .i64 c.asset, .int .i64 c.units] 3))) (BL.cls' (hA9.alloc (Below.size hA9) _)) (Below.refl _ _) ?_
  clear hK K
  try simp only [Act.put, List.setIfInBounds_toArray, List.set_cons_zero, List.set_cons_succ]
  refine wpAnyU_last (o := { dst := some 13, op := Op.call { callee := Callee.value (Operand.func 55), args := #[Operand.tmp 5, Operand.tmp 12], argTypes := #[78, 155] }, type := 0, pos := "write.go:69", after := #[{ on := 2, ground := Ground.data }, { on := 9, ground := Ground.data }], guard := none }) (by kernel_rfl) (by kernel_rfl) rfl (fun w1 hb1 K hK => ?_)
  go_simp
  have hbl : Below W0.heap.size W0 w1 := (Below.alloc hA9 hA9.size (.cells #[.int .i64 c.who, .int .i64 c.asset, .int .i64 c.units] 3)).trans (hb1.mono (by simp; exact Nat.le_succ_of_le hA9.size))
  have hp1 := HP0.out.below hbl
  have his : Is (wA9.alloc (.cells #[.int .i64 c.who, .int .i64 c.asset, .int .i64 c.units] 3)) (.slice (some ⟨wA9.heap.size, 0, none⟩) 3 3) [c.who, c.asset, c.units] := Is.block (l := [c.who, c.asset, c.units]) (heap_new rfl) (Nat.le_refl _) (by simp [maxLen])
  have his1 := his.mono hb1
  refine (WInt_any w1 g v l lg _ _ hp1 his1 (fun w2 hk => his1.kept1 hk (fun _ k hi e => ?_)) (fun n hn => HR.out n (by rw [show [c.who, c.asset, c.units] = [] ++ ([c.who, c.asset, c.units] ++ []) from rfl]; exact List.mem_append_right _ (List.mem_append_left _ hn))) (by have := HLEN.out; simp; omega)).mono ?_
  · obtain ⟨ad, n, c, hv, rfl⟩ := hi
    injection hv with h5
    injection h5 with h5
    subst h5
    have h6 := hA9.size
    rcases e with e | e'
    · have := HP0.out.lt
      simp only at e
      omega
    · have := (HP0.out.row _ e').2
      simp only at this
      omega
  rintro e wn ⟨rfl, hpo⟩
  have HPO := Lib.hid (hpo.pre hbl)
  clear hbl hp1 his his1 hpo hb1
  refine hK.out _ _ ?_
  clear hK K
  try simp only [Act.put, List.setIfInBounds_toArray, List.set_cons_zero, List.set_cons_succ]
  have hf := PWPost.next ⟨HP0.out, HK0.out, HO0.out⟩ HPO.out
  clear HPO
  go_wp2_with fail
  go_end0
  exact ⟨rfl, PWPost.pre (by rw [← HGC.out]; exact HBX.out) hf⟩

set_option maxRecDepth 100000 in
set_option maxHeartbeats 1600000 in
theorem wcal_any (w : World) (g : Nat) (v : Value) (l : List UInt8) (lg : Bool) (gw : Nat) (c : CaT) (hp : PW tw rs w g v l lg) (hgw : HT w gw tb [.pointer (some ⟨g, 0, none⟩)]) (hgn : gw ≠ g ∧ v.ownBlock ≠ some gw) (hr : okI c.ints) (hlen : l.length ≤ 35184372088832) :
    Calls Tryz.prog 63 #[.agg #[.int .i64 c.who, .int .i64 c.cur, .int .i64 c.amt, .int .i64 c.tick], .pointer (some ⟨gw, 0, none⟩)] w fun e w' => e = .returned (.tuple #[]) ∧ PWPost tw rs w g v (l ++ c.bytes) lg w' := by
  have hbx := (Below.refl w.heap.size w).alloc (Nat.le_refl _) (.cells #[.int .i64 c.who, .int .i64 c.cur, .int .i64 c.amt, .int .i64 c.tick] 108)
  have hc : HT (w.alloc (.cells #[.int .i64 c.who, .int .i64 c.cur, .int .i64 c.amt, .int .i64 c.tick] 108)) w.heap.size 108 [.int .i64 c.who, .int .i64 c.cur, .int .i64 c.amt, .int .i64 c.tick] := HT.new (w := w)
  have hng : w.heap.size ≠ g := by have := hp.lt; omega
  have hnv : v.ownBlock ≠ some w.heap.size := fun e => by have := (hp.row _ e).2; omega
  have HP0 := Lib.hid (hp.below hbx)
  have HBX := Lib.hid hbx
  have HC0 := Lib.hid hc
  have HGW0 := Lib.hid (hgw.below hbx)
  have HNE0 : Hid (w.heap.size ≠ g ∧ v.ownBlock ≠ some w.heap.size ∧ gw ≠ g ∧ v.ownBlock ≠ some gw) := ⟨hng, hnv, hgn.1, hgn.2⟩
  have HR : Hid (okI [c.who, c.cur, c.amt, c.tick]) := hr
  have HLEN := Lib.hid hlen
  show Calls _ _ _ _ fun e w' => e = .returned (.tuple #[]) ∧ PWPost tw rs w g v (l ++ encIs [c.who, c.cur, c.amt, c.tick]) lg w'
  clear hbx hc hng hnv hp hr hlen hgw hgn
  go_enter Tryz.func63, Tryz.ntmps63
  go_wp2_with fail
  generalize hW : (w.alloc (.cells #[.int .i64 c.who, .int .i64 c.cur, .int .i64 c.amt, .int .i64 c.tick] 108)) = W0 at *
  clear hW
  have HK0 : Hid (Kept (fun k => k = g ∨ v.ownBlock = some k) W0 W0) := Kept.refl _ _
  have HO0 : Hid (∀ k, v.ownBlock = some k → v.ownBlock = some k ∨ W0.heap.size ≤ k) := fun k h => .inl h
  generalize hgc : w.heap.size = gc at *
  have HGC : Hid (gc = w.heap.size) := hgc.symm
  clear hgc
  refine wp_region_bl 15 (by kernel_rfl) ?_
  refine wpAnyU_take (i := 0) (oi := { dst := some 3, op := Op.load 83 (Operand.tmp 1), type := 83, pos := "write.go:70", after := #[], guard := none }) (v := (.pointer (some ⟨g, 0, none⟩))) rfl (by kernel_rfl) (by kernel_rfl) (by kernel_rfl) (by kernel_rfl) (by kernel_rfl) (fun _ _ _ h => h) (BL.cls W0) ?_ ?_
  · refine Or.inl ⟨rfl, fun w hSw => ?_⟩
    have e0 := BL.cell hSw (HGW0.out.cell (j := 0) rfl)
    exact EffR.same (by go_simp)
  try simp only [Act.put, List.setIfInBounds_toArray, List.set_cons_zero, List.set_cons_succ]
  refine wpAnyU_take (i := 1) (oi := { dst := some 4, op := Op.nilCheck (Operand.tmp 3), type := 0, pos := "write.go:70", after := #[{ on := 0, ground := Ground.data }], guard := none }) (v := (.pointer (some ⟨g, 0, none⟩))) rfl (by kernel_rfl) (by kernel_rfl) (by kernel_rfl) (by kernel_rfl) (by kernel_rfl) (fun _ _ _ h => h) (BL.cls W0) ?_ ?_
  · refine Or.inl ⟨rfl, fun w hSw => ?_⟩
    exact EffR.same (by go_simp)
  try simp only [Act.put, List.setIfInBounds_toArray, List.set_cons_zero, List.set_cons_succ]
  refine wpAnyU_take (i := 2) (oi := { dst := some 5, op := Op.fieldAddr 80 (Operand.tmp 4) 0, type := 0, pos := "write.go:70", after := #[{ on := 1, ground := Ground.data }], guard := none }) (v := (.pointer (some ⟨g, 0, none⟩))) rfl (by kernel_rfl) (by kernel_rfl) (by kernel_rfl) (by kernel_rfl) (by kernel_rfl) (fun _ _ _ h => h) (BL.cls W0) ?_ ?_
  · refine Or.inl ⟨rfl, fun w hSw => ?_⟩
    exact EffR.same (by go_simp)
  try simp only [Act.put, List.setIfInBounds_toArray, List.set_cons_zero, List.set_cons_succ]
  refine wpAnyU_take (i := 3) (oi := { dst := some 6, op := Op.fieldAddr 108 (Operand.tmp 2) 0, type := 0, pos := "write.go:70", after := #[], guard := none }) (v := (.pointer (some ⟨gc, 0, none⟩))) rfl (by kernel_rfl) (by kernel_rfl) (by kernel_rfl) (by kernel_rfl) (by kernel_rfl) (fun _ _ _ h => h) (BL.cls W0) ?_ ?_
  · refine Or.inl ⟨rfl, fun w hSw => ?_⟩
    exact EffR.same (by go_simp)
  try simp only [Act.put, List.setIfInBounds_toArray, List.set_cons_zero, List.set_cons_succ]
  refine wpAnyU_take (i := 4) (oi := { dst := some 7, op := Op.fieldAddr 106 (Operand.tmp 6) 0, type := 0, pos := "write.go:70", after := #[{ on := 3, ground := Ground.data }], guard := none }) (v := (.pointer (some ⟨gc, 0, none⟩))) rfl (by kernel_rfl) (by kernel_rfl) (by kernel_rfl) (by kernel_rfl) (by kernel_rfl) (fun _ _ _ h => h) (BL.cls W0) ?_ ?_
  · refine Or.inl ⟨rfl, fun w hSw => ?_⟩
    exact EffR.same (by go_simp)
  try simp only [Act.put, List.setIfInBounds_toArray, List.set_cons_zero, List.set_cons_succ]
  refine wpAnyU_take (i := 5) (oi := { dst := some 8, op := Op.load 3 (Operand.tmp 7), type := 3, pos := "write.go:70", after := #[{ on := 4, ground := Ground.data }], guard := none }) (v := (.int .i64 c.who)) rfl (by kernel_rfl) (by kernel_rfl) (by kernel_rfl) (by kernel_rfl) (by kernel_rfl) (fun _ _ _ h => h) (BL.cls W0) ?_ ?_
  · refine Or.inl ⟨rfl, fun w hSw => ?_⟩
    have e0 := BL.cell hSw (HC0.out.cell (j := 0) rfl)
    exact EffR.same (by go_simp)
  try simp only [Act.put, List.setIfInBounds_toArray, List.set_cons_zero, List.set_cons_succ]
  refine wpAnyU_take (i := 6) (oi := { dst := some 9, op := Op.fieldAddr 108 (Operand.tmp 2) 0, type := 0, pos := "write.go:70", after := #[], guard := none }) (v := (.pointer (some ⟨gc, 0, none⟩))) rfl (by kernel_rfl) (by kernel_rfl) (by kernel_rfl) (by kernel_rfl) (by kernel_rfl) (fun _ _ _ h => h) (BL.cls W0) ?_ ?_
  · refine Or.inl ⟨rfl, fun w hSw => ?_⟩
    exact EffR.same (by go_simp)
  try simp only [Act.put, List.setIfInBounds_toArray, List.set_cons_zero, List.set_cons_succ]
  refine wpAnyU_take (i := 7) (oi := { dst := some 10, op := Op.fieldAddr 106 (Operand.tmp 9) 1, type := 0, pos := "write.go:70", after := #[{ on := 6, ground := Ground.data }], guard := none }) (v := (.pointer (some ⟨gc, 1, none⟩))) rfl (by kernel_rfl) (by kernel_rfl) (by kernel_rfl) (by kernel_rfl) (by kernel_rfl) (fun _ _ _ h => h) (BL.cls W0) ?_ ?_
  · refine Or.inl ⟨rfl, fun w hSw => ?_⟩
    exact EffR.same (by go_simp)
  try simp only [Act.put, List.setIfInBounds_toArray, List.set_cons_zero, List.set_cons_succ]
  refine wpAnyU_take (i := 8) (oi := { dst := some 11, op := Op.load 3 (Operand.tmp 10), type := 3, pos := "write.go:70", after := #[{ on := 7, ground := Ground.data }], guard := none }) (v := (.int .i64 c.cur)) rfl (by kernel_rfl) (by kernel_rfl) (by kernel_rfl) (by kernel_rfl) (by kernel_rfl) (fun _ _ _ h => h) (BL.cls W0) ?_ ?_
  · refine Or.inl ⟨rfl, fun w hSw => ?_⟩
    have e0 := BL.cell hSw (HC0.out.cell (j := 1) rfl)
    exact EffR.same (by go_simp)
  try simp only [Act.put, List.setIfInBounds_toArray, List.set_cons_zero, List.set_cons_succ]
  refine wpAnyU_take (i := 9) (oi := { dst := some 12, op := Op.fieldAddr 108 (Operand.tmp 2) 0, type := 0, pos := "write.go:70", after := #[], guard := none }) (v := (.pointer (some ⟨gc, 0, none⟩))) rfl (by kernel_rfl) (by kernel_rfl) (by kernel_rfl) (by kernel_rfl) (by kernel_rfl) (fun _ _ _ h => h) (BL.cls W0) ?_ ?_
  · refine Or.inl ⟨rfl, fun w hSw => ?_⟩
    exact EffR.same (by go_simp)
  try simp only [Act.put, List.setIfInBounds_toArray, List.set_cons_zero, List.set_cons_succ]
  refine wpAnyU_take (i := 10) (oi := { dst := some 13, op := Op.fieldAddr 106 (Operand.tmp 12) 2, type := 0, pos := "write.go:70", after := #[{ on := 9, ground := Ground.data }], guard := none }) (v := (.pointer (some ⟨gc, 2, none⟩))) rfl (by kernel_rfl) (by kernel_rfl) (by kernel_rfl) (by kernel_rfl) (by kernel_rfl) (fun _ _ _ h => h) (BL.cls W0) ?_ ?_
  · refine Or.inl ⟨rfl, fun w hSw => ?_⟩
    exact EffR.same (by go_simp)
  try simp only [Act.put, List.setIfInBounds_toArray, List.set_cons_zero, List.set_cons_succ]
  refine wpAnyU_take (i := 11) (oi := { dst := some 14, op := Op.load 3 (Operand.tmp 13), type := 3, pos := "write.go:70", after := #[{ on := 10, ground := Ground.data }], guard := none }) (v := (.int .i64 c.amt)) rfl (by kernel_rfl) (by kernel_rfl) (by kernel_rfl) (by kernel_rfl) (by kernel_rfl) (fun _ _ _ h => h) (BL.cls W0) ?_ ?_
  · refine Or.inl ⟨rfl, fun w hSw => ?_⟩
    have e0 := BL.cell hSw (HC0.out.cell (j := 2) rfl)
    exact EffR.same (by go_simp)
  try simp only [Act.put, List.setIfInBounds_toArray, List.set_cons_zero, List.set_cons_succ]
  refine wpAnyU_take (i := 12) (oi := { dst := some 15, op := Op.fieldAddr 108 (Operand.tmp 2) 1, type := 0, pos := "write.go:70", after := #[], guard := none }) (v := (.pointer (some ⟨gc, 3, none⟩))) rfl (by kernel_rfl) (by kernel_rfl) (by kernel_rfl) (by kernel_rfl) (by kernel_rfl) (fun _ _ _ h => h) (BL.cls W0) ?_ ?_
  · refine Or.inl ⟨rfl, fun w hSw => ?_⟩
    exact EffR.same (by go_simp)
  try simp only [Act.put, List.setIfInBounds_toArray, List.set_cons_zero, List.set_cons_succ]
  refine wpAnyU_take (i := 13) (oi := { dst := some 16, op := Op.load 3 (Operand.tmp 15), type := 3, pos := "write.go:70", after := #[{ on := 12, ground := Ground.data }], guard := none }) (v := (.int .i64 c.tick)) rfl (by kernel_rfl) (by kernel_rfl) (by kernel_rfl) (by kernel_rfl) (by kernel_rfl) (fun _ _ _ h => h) (BL.cls W0) ?_ ?_
  · refine Or.inl ⟨rfl, fun w hSw => ?_⟩
    have e0 := BL.cell hSw (HC0.out.cell (j := 3) rfl)
    exact EffR.same (by go_simp)
  try simp only [Act.put, List.setIfInBounds_toArray, List.set_cons_zero, List.set_cons_succ]
  refine wpAnyU_ready (rs := [14]) (by kernel_rfl) (by simp) ?_
  refine AllReadyU.cons (o := { dst := some 17, op := Op.buildSlice 155 4 #[(0, Operand.tmp 8), (1, Operand.tmp 11), (2, Operand.tmp 14), (3, Operand.tmp 16)], type := 155, pos := "write.go:70", after := #[{ on := 5, ground := Ground.data }, { on := 8, ground := Ground.data }, { on := 11, ground := Ground.data }, { on := 13, ground := Ground.data }], guard := none }) rfl (fun wA14 hA14 K hK => ?_) AllReadyU.nil
  go_simp
  refine hK.out _ _ (BL (wA14.alloc (.cells #[.int .i64 c.who, .int .i64 c.cur, .int .i64 c.amt, .int .i64 c.tick] 3))) (BL.cls' (hA14.alloc (Below.size hA14) _)) (Below.refl _ _) ?_
  clear hK K
  try simp only [Act.put, List.setIfInBounds_toArray, List.set_cons_zero, List.set_cons_succ]
  refine wpAnyU_last (o := { dst := some 18, op := Op.call { callee := Callee.value (Operand.func 55), args := #[Operand.tmp 5, Operand.tmp 17], argTypes := #[78, 155] }, type := 0, pos := "write.go:70", after := #[{ on := 2, ground := Ground.data }, { on := 14, ground := Ground.data }], guard := none }) (by kernel_rfl) (by kernel_rfl) rfl (fun w1 hb1 K hK => ?_)
  go_simp
  have hbl : Below W0.heap.size W0 w1 := (Below.alloc hA14 hA14.size (.cells #[.int .i64 c.who, .int .i64 c.cur, .int .i64 c.amt, .int .i64 c.tick] 3)).trans (hb1.mono (by simp; exact Nat.le_succ_of_le hA14.size))
  have hp1 := HP0.out.below hbl
  have his : Is (wA14.alloc (.cells #[.int .i64 c.who, .int .i64 c.cur, .int .i64 c.amt, .int .i64 c.tick] 3)) (.slice (some ⟨wA14.heap.size, 0, none⟩) 4 4) [c.who, c.cur, c.amt, c.tick] := Is.block (l := [c.who, c.cur, c.amt, c.tick]) (heap_new rfl) (Nat.le_refl _) (by simp [maxLen])
  have his1 := his.mono hb1
  refine (WInt_any w1 g v l lg _ _ hp1 his1 (fun w2 hk => his1.kept1 hk (fun _ k hi e => ?_)) (fun n hn => HR.out n (by rw [show [c.who, c.cur, c.amt, c.tick] = [] ++ ([c.who, c.cur, c.amt, c.tick] ++ []) from rfl]; exact List.mem_append_right _ (List.mem_append_left _ hn))) (by have := HLEN.out; simp; omega)).mono ?_
  · obtain ⟨ad, n, c, hv, rfl⟩ := hi
    injection hv with h5
    injection h5 with h5
    subst h5
    have h6 := hA14.size
    rcases e with e | e'
    · have := HP0.out.lt
      simp only at e
      omega
    · have := (HP0.out.row _ e').2
      simp only at this
      omega
  rintro e wn ⟨rfl, hpo⟩
  have HPO := Lib.hid (hpo.pre hbl)
  clear hbl hp1 his his1 hpo hb1
  refine hK.out _ _ ?_
  clear hK K
  try simp only [Act.put, List.setIfInBounds_toArray, List.set_cons_zero, List.set_cons_succ]
  have hf := PWPost.next ⟨HP0.out, HK0.out, HO0.out⟩ HPO.out
  clear HPO
  go_wp2_with fail
  go_end0
  exact ⟨rfl, PWPost.pre (by rw [← HGC.out]; exact HBX.out) hf⟩

set_option maxRecDepth 100000 in
set_option maxHeartbeats 1600000 in
theorem wbid_any (w : World) (g : Nat) (v : Value) (l : List UInt8) (lg : Bool) (gw : Nat) (c : BiT) (hp : PW tw rs w g v l lg) (hgw : HT w gw tb [.pointer (some ⟨g, 0, none⟩)]) (hgn : gw ≠ g ∧ v.ownBlock ≠ some gw) (hr : okI c.ints) (hlen : l.length ≤ 35184372088832) :
    Calls Tryz.prog 65 #[.agg #[.int .i64 c.who, .int .i64 c.inst, .int .i64 c.frm, .int .i64 c.qty, .int .i64 c.price], .pointer (some ⟨gw, 0, none⟩)] w fun e w' => e = .returned (.tuple #[]) ∧ PWPost tw rs w g v (l ++ c.bytes) lg w' := by
  have hbx := (Below.refl w.heap.size w).alloc (Nat.le_refl _) (.cells #[.int .i64 c.who, .int .i64 c.inst, .int .i64 c.frm, .int .i64 c.qty, .int .i64 c.price] 110)
  have hc : HT (w.alloc (.cells #[.int .i64 c.who, .int .i64 c.inst, .int .i64 c.frm, .int .i64 c.qty, .int .i64 c.price] 110)) w.heap.size 110 [.int .i64 c.who, .int .i64 c.inst, .int .i64 c.frm, .int .i64 c.qty, .int .i64 c.price] := HT.new (w := w)
  have hng : w.heap.size ≠ g := by have := hp.lt; omega
  have hnv : v.ownBlock ≠ some w.heap.size := fun e => by have := (hp.row _ e).2; omega
  have HP0 := Lib.hid (hp.below hbx)
  have HBX := Lib.hid hbx
  have HC0 := Lib.hid hc
  have HGW0 := Lib.hid (hgw.below hbx)
  have HNE0 : Hid (w.heap.size ≠ g ∧ v.ownBlock ≠ some w.heap.size ∧ gw ≠ g ∧ v.ownBlock ≠ some gw) := ⟨hng, hnv, hgn.1, hgn.2⟩
  have HR : Hid (okI [c.who, c.inst, c.frm, c.qty, c.price]) := hr
  have HLEN := Lib.hid hlen
  show Calls _ _ _ _ fun e w' => e = .returned (.tuple #[]) ∧ PWPost tw rs w g v (l ++ encIs [c.who, c.inst, c.frm, c.qty, c.price]) lg w'
  clear hbx hc hng hnv hp hr hlen hgw hgn
  go_enter Tryz.func65, Tryz.ntmps65
  go_wp2_with fail
  generalize hW : (w.alloc (.cells #[.int .i64 c.who, .int .i64 c.inst, .int .i64 c.frm, .int .i64 c.qty, .int .i64 c.price] 110)) = W0 at *
  clear hW
  have HK0 : Hid (Kept (fun k => k = g ∨ v.ownBlock = some k) W0 W0) := Kept.refl _ _
  have HO0 : Hid (∀ k, v.ownBlock = some k → v.ownBlock = some k ∨ W0.heap.size ≤ k) := fun k h => .inl h
  generalize hgc : w.heap.size = gc at *
  have HGC : Hid (gc = w.heap.size) := hgc.symm
  clear hgc
  refine wp_region_bl 16 (by kernel_rfl) ?_
  refine wpAnyU_take (i := 0) (oi := { dst := some 3, op := Op.load 83 (Operand.tmp 1), type := 83, pos := "write.go:71", after := #[], guard := none }) (v := (.pointer (some ⟨g, 0, none⟩))) rfl (by kernel_rfl) (by kernel_rfl) (by kernel_rfl) (by kernel_rfl) (by kernel_rfl) (fun _ _ _ h => h) (BL.cls W0) ?_ ?_
  · refine Or.inl ⟨rfl, fun w hSw => ?_⟩
    have e0 := BL.cell hSw (HGW0.out.cell (j := 0) rfl)
    exact EffR.same (by go_simp)
  try simp only [Act.put, List.setIfInBounds_toArray, List.set_cons_zero, List.set_cons_succ]
  refine wpAnyU_take (i := 1) (oi := { dst := some 4, op := Op.nilCheck (Operand.tmp 3), type := 0, pos := "write.go:71", after := #[{ on := 0, ground := Ground.data }], guard := none }) (v := (.pointer (some ⟨g, 0, none⟩))) rfl (by kernel_rfl) (by kernel_rfl) (by kernel_rfl) (by kernel_rfl) (by kernel_rfl) (fun _ _ _ h => h) (BL.cls W0) ?_ ?_
  · refine Or.inl ⟨rfl, fun w hSw => ?_⟩
    exact EffR.same (by go_simp)
  try simp only [Act.put, List.setIfInBounds_toArray, List.set_cons_zero, List.set_cons_succ]
  refine wpAnyU_take (i := 2) (oi := { dst := some 5, op := Op.fieldAddr 80 (Operand.tmp 4) 0, type := 0, pos := "write.go:71", after := #[{ on := 1, ground := Ground.data }], guard := none }) (v := (.pointer (some ⟨g, 0, none⟩))) rfl (by kernel_rfl) (by kernel_rfl) (by kernel_rfl) (by kernel_rfl) (by kernel_rfl) (fun _ _ _ h => h) (BL.cls W0) ?_ ?_
  · refine Or.inl ⟨rfl, fun w hSw => ?_⟩
    exact EffR.same (by go_simp)
  try simp only [Act.put, List.setIfInBounds_toArray, List.set_cons_zero, List.set_cons_succ]
  refine wpAnyU_take (i := 3) (oi := { dst := some 6, op := Op.fieldAddr 110 (Operand.tmp 2) 0, type := 0, pos := "write.go:71", after := #[], guard := none }) (v := (.pointer (some ⟨gc, 0, none⟩))) rfl (by kernel_rfl) (by kernel_rfl) (by kernel_rfl) (by kernel_rfl) (by kernel_rfl) (fun _ _ _ h => h) (BL.cls W0) ?_ ?_
  · refine Or.inl ⟨rfl, fun w hSw => ?_⟩
    exact EffR.same (by go_simp)
  try simp only [Act.put, List.setIfInBounds_toArray, List.set_cons_zero, List.set_cons_succ]
  refine wpAnyU_take (i := 4) (oi := { dst := some 7, op := Op.fieldAddr 96 (Operand.tmp 6) 0, type := 0, pos := "write.go:71", after := #[{ on := 3, ground := Ground.data }], guard := none }) (v := (.pointer (some ⟨gc, 0, none⟩))) rfl (by kernel_rfl) (by kernel_rfl) (by kernel_rfl) (by kernel_rfl) (by kernel_rfl) (fun _ _ _ h => h) (BL.cls W0) ?_ ?_
  · refine Or.inl ⟨rfl, fun w hSw => ?_⟩
    exact EffR.same (by go_simp)
  try simp only [Act.put, List.setIfInBounds_toArray, List.set_cons_zero, List.set_cons_succ]
  refine wpAnyU_take (i := 5) (oi := { dst := some 8, op := Op.load 3 (Operand.tmp 7), type := 3, pos := "write.go:71", after := #[{ on := 4, ground := Ground.data }], guard := none }) (v := (.int .i64 c.who)) rfl (by kernel_rfl) (by kernel_rfl) (by kernel_rfl) (by kernel_rfl) (by kernel_rfl) (fun _ _ _ h => h) (BL.cls W0) ?_ ?_
  · refine Or.inl ⟨rfl, fun w hSw => ?_⟩
    have e0 := BL.cell hSw (HC0.out.cell (j := 0) rfl)
    exact EffR.same (by go_simp)
  try simp only [Act.put, List.setIfInBounds_toArray, List.set_cons_zero, List.set_cons_succ]
  refine wpAnyU_take (i := 6) (oi := { dst := some 9, op := Op.fieldAddr 110 (Operand.tmp 2) 0, type := 0, pos := "write.go:71", after := #[], guard := none }) (v := (.pointer (some ⟨gc, 0, none⟩))) rfl (by kernel_rfl) (by kernel_rfl) (by kernel_rfl) (by kernel_rfl) (by kernel_rfl) (fun _ _ _ h => h) (BL.cls W0) ?_ ?_
  · refine Or.inl ⟨rfl, fun w hSw => ?_⟩
    exact EffR.same (by go_simp)
  try simp only [Act.put, List.setIfInBounds_toArray, List.set_cons_zero, List.set_cons_succ]
  refine wpAnyU_take (i := 7) (oi := { dst := some 10, op := Op.fieldAddr 96 (Operand.tmp 9) 1, type := 0, pos := "write.go:71", after := #[{ on := 6, ground := Ground.data }], guard := none }) (v := (.pointer (some ⟨gc, 1, none⟩))) rfl (by kernel_rfl) (by kernel_rfl) (by kernel_rfl) (by kernel_rfl) (by kernel_rfl) (fun _ _ _ h => h) (BL.cls W0) ?_ ?_
  · refine Or.inl ⟨rfl, fun w hSw => ?_⟩
    exact EffR.same (by go_simp)
  try simp only [Act.put, List.setIfInBounds_toArray, List.set_cons_zero, List.set_cons_succ]
  refine wpAnyU_take (i := 8) (oi := { dst := some 11, op := Op.load 3 (Operand.tmp 10), type := 3, pos := "write.go:71", after := #[{ on := 7, ground := Ground.data }], guard := none }) (v := (.int .i64 c.inst)) rfl (by kernel_rfl) (by kernel_rfl) (by kernel_rfl) (by kernel_rfl) (by kernel_rfl) (fun _ _ _ h => h) (BL.cls W0) ?_ ?_
  · refine Or.inl ⟨rfl, fun w hSw => ?_⟩
    have e0 := BL.cell hSw (HC0.out.cell (j := 1) rfl)
    exact EffR.same (by go_simp)
  try simp only [Act.put, List.setIfInBounds_toArray, List.set_cons_zero, List.set_cons_succ]
  refine wpAnyU_take (i := 9) (oi := { dst := some 12, op := Op.fieldAddr 110 (Operand.tmp 2) 1, type := 0, pos := "write.go:71", after := #[], guard := none }) (v := (.pointer (some ⟨gc, 2, none⟩))) rfl (by kernel_rfl) (by kernel_rfl) (by kernel_rfl) (by kernel_rfl) (by kernel_rfl) (fun _ _ _ h => h) (BL.cls W0) ?_ ?_
  · refine Or.inl ⟨rfl, fun w hSw => ?_⟩
    exact EffR.same (by go_simp)
  try simp only [Act.put, List.setIfInBounds_toArray, List.set_cons_zero, List.set_cons_succ]
  refine wpAnyU_take (i := 10) (oi := { dst := some 13, op := Op.load 3 (Operand.tmp 12), type := 3, pos := "write.go:71", after := #[{ on := 9, ground := Ground.data }], guard := none }) (v := (.int .i64 c.frm)) rfl (by kernel_rfl) (by kernel_rfl) (by kernel_rfl) (by kernel_rfl) (by kernel_rfl) (fun _ _ _ h => h) (BL.cls W0) ?_ ?_
  · refine Or.inl ⟨rfl, fun w hSw => ?_⟩
    have e0 := BL.cell hSw (HC0.out.cell (j := 2) rfl)
    exact EffR.same (by go_simp)
  try simp only [Act.put, List.setIfInBounds_toArray, List.set_cons_zero, List.set_cons_succ]
  refine wpAnyU_take (i := 11) (oi := { dst := some 14, op := Op.fieldAddr 110 (Operand.tmp 2) 2, type := 0, pos := "write.go:71", after := #[], guard := none }) (v := (.pointer (some ⟨gc, 3, none⟩))) rfl (by kernel_rfl) (by kernel_rfl) (by kernel_rfl) (by kernel_rfl) (by kernel_rfl) (fun _ _ _ h => h) (BL.cls W0) ?_ ?_
  · refine Or.inl ⟨rfl, fun w hSw => ?_⟩
    exact EffR.same (by go_simp)
  try simp only [Act.put, List.setIfInBounds_toArray, List.set_cons_zero, List.set_cons_succ]
  refine wpAnyU_take (i := 12) (oi := { dst := some 15, op := Op.load 3 (Operand.tmp 14), type := 3, pos := "write.go:71", after := #[{ on := 11, ground := Ground.data }], guard := none }) (v := (.int .i64 c.qty)) rfl (by kernel_rfl) (by kernel_rfl) (by kernel_rfl) (by kernel_rfl) (by kernel_rfl) (fun _ _ _ h => h) (BL.cls W0) ?_ ?_
  · refine Or.inl ⟨rfl, fun w hSw => ?_⟩
    have e0 := BL.cell hSw (HC0.out.cell (j := 3) rfl)
    exact EffR.same (by go_simp)
  try simp only [Act.put, List.setIfInBounds_toArray, List.set_cons_zero, List.set_cons_succ]
  refine wpAnyU_take (i := 13) (oi := { dst := some 16, op := Op.fieldAddr 110 (Operand.tmp 2) 3, type := 0, pos := "write.go:71", after := #[], guard := none }) (v := (.pointer (some ⟨gc, 4, none⟩))) rfl (by kernel_rfl) (by kernel_rfl) (by kernel_rfl) (by kernel_rfl) (by kernel_rfl) (fun _ _ _ h => h) (BL.cls W0) ?_ ?_
  · refine Or.inl ⟨rfl, fun w hSw => ?_⟩
    exact EffR.same (by go_simp)
  try simp only [Act.put, List.setIfInBounds_toArray, List.set_cons_zero, List.set_cons_succ]
  refine wpAnyU_take (i := 14) (oi := { dst := some 17, op := Op.load 3 (Operand.tmp 16), type := 3, pos := "write.go:71", after := #[{ on := 13, ground := Ground.data }], guard := none }) (v := (.int .i64 c.price)) rfl (by kernel_rfl) (by kernel_rfl) (by kernel_rfl) (by kernel_rfl) (by kernel_rfl) (fun _ _ _ h => h) (BL.cls W0) ?_ ?_
  · refine Or.inl ⟨rfl, fun w hSw => ?_⟩
    have e0 := BL.cell hSw (HC0.out.cell (j := 4) rfl)
    exact EffR.same (by go_simp)
  try simp only [Act.put, List.setIfInBounds_toArray, List.set_cons_zero, List.set_cons_succ]
  refine wpAnyU_ready (rs := [15]) (by kernel_rfl) (by simp) ?_
  refine AllReadyU.cons (o := { dst := some 18, op := Op.buildSlice 155 5 #[(0, Operand.tmp 8), (1, Operand.tmp 11), (2, Operand.tmp 13), (3, Operand.tmp 15), (4, Operand.tmp 17)], type := 155, pos := "write.go:71", after := #[{ on := 5, ground := Ground.data }, { on := 8, ground := Ground.data }, { on := 10, ground := Ground.data }, { on := 12, ground := Ground.data }, { on := 14, ground := Ground.data }], guard := none }) rfl (fun wA15 hA15 K hK => ?_) AllReadyU.nil
  go_simp
  refine hK.out _ _ (BL (wA15.alloc (.cells #[.int .i64 c.who, .int .i64 c.inst, .int .i64 c.frm, .int .i64 c.qty, .int .i64 c.price] 3))) (BL.cls' (hA15.alloc (Below.size hA15) _)) (Below.refl _ _) ?_
  clear hK K
  try simp only [Act.put, List.setIfInBounds_toArray, List.set_cons_zero, List.set_cons_succ]
  refine wpAnyU_last (o := { dst := some 19, op := Op.call { callee := Callee.value (Operand.func 55), args := #[Operand.tmp 5, Operand.tmp 18], argTypes := #[78, 155] }, type := 0, pos := "write.go:71", after := #[{ on := 2, ground := Ground.data }, { on := 15, ground := Ground.data }], guard := none }) (by kernel_rfl) (by kernel_rfl) rfl (fun w1 hb1 K hK => ?_)
  go_simp
  have hbl : Below W0.heap.size W0 w1 := (Below.alloc hA15 hA15.size (.cells #[.int .i64 c.who, .int .i64 c.inst, .int .i64 c.frm, .int .i64 c.qty, .int .i64 c.price] 3)).trans (hb1.mono (by simp; exact Nat.le_succ_of_le hA15.size))
  have hp1 := HP0.out.below hbl
  have his : Is (wA15.alloc (.cells #[.int .i64 c.who, .int .i64 c.inst, .int .i64 c.frm, .int .i64 c.qty, .int .i64 c.price] 3)) (.slice (some ⟨wA15.heap.size, 0, none⟩) 5 5) [c.who, c.inst, c.frm, c.qty, c.price] := Is.block (l := [c.who, c.inst, c.frm, c.qty, c.price]) (heap_new rfl) (Nat.le_refl _) (by simp [maxLen])
  have his1 := his.mono hb1
  refine (WInt_any w1 g v l lg _ _ hp1 his1 (fun w2 hk => his1.kept1 hk (fun _ k hi e => ?_)) (fun n hn => HR.out n (by rw [show [c.who, c.inst, c.frm, c.qty, c.price] = [] ++ ([c.who, c.inst, c.frm, c.qty, c.price] ++ []) from rfl]; exact List.mem_append_right _ (List.mem_append_left _ hn))) (by have := HLEN.out; simp; omega)).mono ?_
  · obtain ⟨ad, n, c, hv, rfl⟩ := hi
    injection hv with h5
    injection h5 with h5
    subst h5
    have h6 := hA15.size
    rcases e with e | e'
    · have := HP0.out.lt
      simp only at e
      omega
    · have := (HP0.out.row _ e').2
      simp only at this
      omega
  rintro e wn ⟨rfl, hpo⟩
  have HPO := Lib.hid (hpo.pre hbl)
  clear hbl hp1 his his1 hpo hb1
  refine hK.out _ _ ?_
  clear hK K
  try simp only [Act.put, List.setIfInBounds_toArray, List.set_cons_zero, List.set_cons_succ]
  have hf := PWPost.next ⟨HP0.out, HK0.out, HO0.out⟩ HPO.out
  clear HPO
  go_wp2_with fail
  go_end0
  exact ⟨rfl, PWPost.pre (by rw [← HGC.out]; exact HBX.out) hf⟩
end Cam
