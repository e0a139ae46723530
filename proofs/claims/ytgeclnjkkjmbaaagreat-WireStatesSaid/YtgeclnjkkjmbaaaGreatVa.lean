import Derived.Test.YtgeclnjkkjmbaaaGreatPkPz
import Derived.Test.YtgeclnjkkjmbaaaGreatProg
import Derived.Laws.BitsAll
import Derived.Laws.Bits64b
/- pack.Writer: Int. -/
namespace Cam
open Go Go.RowKit Go.Proofs
set_option linter.unusedVariables false
set_option linter.unusedSimpArgs false
set_option maxHeartbeats 1600000
def PW (tw : TypeId) (rs : List Value) (w : World) (g : Nat) (v : Value) (l : List UInt8) (lg : Bool) : Prop := w.heap[g]? = some (.cells (v :: .bool lg :: rs).toArray tw (0, 0)) ∧ OwnB 5 w (g + 1) v l
def PWPost (tw : TypeId) (rs : List Value) (w : World) (g : Nat) (v : Value) (l : List UInt8) (lg : Bool) (w' : World) : Prop :=
 ∃ v', PW tw rs w' g v' l lg ∧ Kept (fun k => k = g ∨ v.ownBlock = some k) w w' ∧ ∀ k, v'.ownBlock = some k → v.ownBlock = some k ∨ w.heap.size ≤ k
variable {tw : TypeId} {rs : List Value}
theorem elem_byte : Elem Tryz.prog 42 5 1 1 := Elem.mk' (z := .int .u8 0) Tryz.underlying42 (by kernel_rfl) rfl (by decide)
theorem PW.cell {w : World} {g : Nat} {v : Value} {l : List UInt8} {lg : Bool} (h : PW tw rs w g v l lg) : w.cell? ⟨g, 0, none⟩ = some v ∧ w.cell? ⟨g, 1, none⟩ = some (.bool lg) ∧ w.frozen? ⟨g, 0, none⟩ = false ∧ w.frozen? ⟨g, 1, none⟩ = false := by
 unfold World.cell? World.frozen?
 rw [h.1]
 exact ⟨rfl, rfl, rfl, rfl⟩
theorem PW.lt {w : World} {g : Nat} {v : Value} {l : List UInt8} {lg : Bool} (h : PW tw rs w g v l lg) : g < w.heap.size := (Array.getElem?_eq_some_iff.1 h.1).1
theorem PW.alloc {w : World} {g : Nat} {v : Value} {l : List UInt8} {lg : Bool} (h : PW tw rs w g v l lg) (o : Obj) : PW tw rs (w.alloc o) g v l lg := by
 refine ⟨?_, OwnB.alloc h.2 o⟩
 have hlt := h.lt
 rw [heap_at, if_neg (by omega)]
 exact h.1
theorem PW.row {w : World} {g : Nat} {v : Value} {l : List UInt8} {lg : Bool} (h : PW tw rs w g v l lg) (k : Nat) (hk : v.ownBlock = some k) : g < k ∧ k < w.heap.size := by
 have := World.ownsRow.lt h.2 k hk
 omega
theorem PW.put {w w' : World} {g : Nat} {v v' : Value} {l m : List UInt8} {lg : Bool} (h : PW tw rs w g v l lg) (hg : w.grownBy w' v.ownBlock) (ho : OwnB 5 w' (g + 1) v' m) (hat : v'.ownBlock = v.ownBlock ∨ v'.ownBlock = some w.heap.size) :
  PW tw rs (w'.setCell ⟨g, 0, none⟩ v') g v' m lg ∧ Kept (fun k => k = g ∨ v.ownBlock = some k) w (w'.setCell ⟨g, 0, none⟩ v') ∧ (w'.cell? ⟨g, 0, none⟩ = some v ∧ w'.frozen? ⟨g, 0, none⟩ = false) ∧ ∀ k, v'.ownBlock = some k → v.ownBlock = some k ∨ w.heap.size ≤ k := by
 have hlt := h.lt
 have hne : some g ≠ v.ownBlock := fun e => by have := h.row g e.symm; omega
 have hb : w'.heap[g]? = some (.cells (v :: .bool lg :: rs).toArray tw (0, 0)) := (hg.block g hlt hne).trans h.1
 have hk : ∀ k, v'.ownBlock = some k → v.ownBlock = some k ∨ w.heap.size ≤ k := by
  intro k hk
  rcases hat with e | e
  ·
   exact .inl (by rw [← e]; exact hk)
  ·
   rw [e] at hk
   simp at hk
   omega
 refine ⟨⟨?_, ?_⟩, ?_, ⟨?_, ?_⟩, hk⟩
 ·
  rw [heap_setCell_same w' g 0 _ _ v' hb]
  simp
 ·
  refine ownsRow_setCell_other ho (a := ⟨g, 0, none⟩) (fun e => ?_) v'
  have := World.ownsRow.lt ho g e
  omega
 ·
  exact ((Kept.of_grown hg).weaken (fun k hk => .inr hk)).setCell _ _ (.inl rfl)
 ·
  unfold World.cell?
  rw [hb]
  rfl
 ·
  unfold World.frozen?
  rw [hb]
  rfl
theorem PW.step {w0 wr w' : World} {g : Nat} {v0 v v' : Value} {m m' : List UInt8} {lg : Bool} (o : Obj) (h : PW tw rs wr g v m lg) (hk : Kept (fun k => k = g ∨ v0.ownBlock = some k) w0 wr)
  (hown : ∀ k, v.ownBlock = some k → v0.ownBlock = some k ∨ w0.heap.size ≤ k) (hg : (wr.alloc o).grownBy w' v.ownBlock) (ho : OwnB 5 w' (g + 1) v' m') (hat : v'.ownBlock = v.ownBlock ∨ v'.ownBlock = some (wr.alloc o).heap.size) :
  (w'.cell? ⟨g, 0, none⟩ = some v ∧ w'.frozen? ⟨g, 0, none⟩ = false) ∧ PW tw rs (w'.setCell ⟨g, 0, none⟩ v') g v' m' lg ∧ Kept (fun k => k = g ∨ v0.ownBlock = some k) w0 (w'.setCell ⟨g, 0, none⟩ v') ∧ ∀ k, v'.ownBlock = some k → v0.ownBlock = some k ∨ w0.heap.size ≤ k := by
 obtain ⟨h1, h2, h3, h4⟩ := (h.alloc o).put hg ho hat
 have hsz := hk.size
 refine ⟨h3, h1, (hk.alloc o).trans h2 (fun i hi ht => ?_), fun k hk' => ?_⟩
 ·
  rcases ht with e | e
  ·
   exact .inl e
  ·
   rcases hown i e with e2 | e2
   ·
    exact .inr e2
   ·
    omega
 ·
  rcases h4 k hk' with e | e
  ·
   exact hown k e
  ·
   simp at e
   exact .inr (by omega)
theorem high_byte (z : Nat) : bits .or .u8 ((z : Int) % 256) 128 = ((UInt8.ofNat (z % 128 + 128)).toNat : Int) := by
 have h : ∀ x : Fin 256, (x.val ||| 128) = x.val % 128 + 128 := by decide +kernel
 have e := u8_or_nat (z % 256) 128 (by omega) (by omega)
 have e2 : ((z : Int) % 256) = ((z % 256 : Nat) : Int) := by omega
 have e3 := h ⟨z % 256, by omega⟩
 simp only at e3
 rw [e2]
 refine e.trans ?_
 rw [e3, UInt8.toNat_ofNat']
 congr 1
 omega
theorem low_byte (z : Nat) (h : z < 128) : (UInt8.ofNat z).toNat = z := by
 rw [UInt8.toNat_ofNat']
 omega
theorem not_u64 (x : Nat) (h : x < 18446744073709551616) : bits .xor .u64 IntKind.u64.max (x : Int) = ((18446744073709551615 - x : Nat) : Int) := by
 have h2 : (BitVec.ofInt 64 (x : Int)).toNat = x := by
  rw [BitVec.ofInt_natCast, BitVec.toNat_ofNat]; exact Nat.mod_eq_of_lt (by omega)
 have h1 : BitVec.ofInt 64 IntKind.u64.max = BitVec.allOnes 64 := by decide
 show IntKind.u64.wrap ((BitVec.ofInt 64 IntKind.u64.max ^^^ BitVec.ofInt 64 (x : Int)).toNat : Int) = _
 rw [h1, BitVec.allOnes_xor, BitVec.toNat_not, h2, IntKind.wrap_u64]
 omega
theorem xor_comm_u64 (a b : Int) : bits .xor .u64 a b = bits .xor .u64 b a := by
 show IntKind.u64.wrap ((BitVec.ofInt 64 a ^^^ BitVec.ofInt 64 b).toNat : Int) = IntKind.u64.wrap ((BitVec.ofInt 64 b ^^^ BitVec.ofInt 64 a).toNat : Int)
 rw [BitVec.xor_comm]
theorem zig_bits (n : Int) (h : -9223372036854775808 ≤ n ∧ n ≤ 9223372036854775807) : bits .xor .u64 (IntKind.u64.wrap (IntKind.u64.wrap n * 2)) (IntKind.u64.wrap (n / 9223372036854775808)) = ((zig n : Nat) : Int) := by
 by_cases hn : n < 0
 ·
  have e1 : IntKind.u64.wrap (n / 9223372036854775808) = IntKind.u64.max := by
   rw [IntKind.wrap_u64, show n / 9223372036854775808 = -1 by omega]
   rfl
  obtain ⟨x, hx⟩ : ∃ x : Nat, IntKind.u64.wrap (IntKind.u64.wrap n * 2) = (x : Int) := ⟨(IntKind.u64.wrap (IntKind.u64.wrap n * 2)).toNat, by simp only [IntKind.wrap_u64]; omega⟩
  have hx2 : x < 18446744073709551616 := by simp only [IntKind.wrap_u64] at hx; omega
  rw [e1, hx, xor_comm_u64, not_u64 x hx2]
  simp only [IntKind.wrap_u64] at hx
  unfold zig
  rw [if_pos hn]
  omega
 ·
  have e1 : IntKind.u64.wrap (n / 9223372036854775808) = ((0 : Nat) : Int) := by
   rw [IntKind.wrap_u64, show n / 9223372036854775808 = 0 by omega]
   rfl
  have e2 : IntKind.u64.wrap (IntKind.u64.wrap n * 2) = ((zig n : Nat) : Int) := by
   simp only [IntKind.wrap_u64]
   unfold zig
   rw [if_neg hn]
   omega
  rw [e1, e2, u64_xor_nat _ _ (zig_lt n h) (by decide), Nat.xor_zero]
set_option maxRecDepth 100000 in
theorem WInt_any (w : World) (g : Nat) (v : Value) (l : List UInt8) (lg : Bool) (vx : Value) (xs : List Int) (hp : PW tw rs w g v l lg) (hxs : Is w vx xs) (hx : ∀ w', Kept (fun k => k = g ∨ v.ownBlock = some k) w w' → Is w' vx xs) (hr : ∀ n ∈ xs, -9223372036854775808 ≤ n ∧ n ≤ 9223372036854775807)
  (hlen : l.length + 10 * xs.length ≤ 70368744177664) :
  Calls Tryz.prog 55 #[.pointer (some ⟨g, 0, none⟩), vx] w fun e w' => e = .returned (.tuple #[]) ∧ PWPost tw rs w g v (l ++ encIs xs) lg w' := by
 obtain ⟨ax, cx, rfl, hcx, hmx⟩ := hxs.shape
 have Hx := Lh hx
 have HR := Lh hr
 have Hl := Lh hlen
 clear hx hr hlen
 go_in
 go_wp2_with fail
 go_loopw [9] (fun i wr => ∃ (k : Nat) (v' : Value), k ≤ xs.length ∧ i = .int .i64 k ∧ PW tw rs wr g v' (l ++ encIs (xs.take k)) lg ∧ Kept (fun k => k = g ∨ v.ownBlock = some k) w wr ∧ Hid (∀ k, v'.ownBlock = some k → v.ownBlock = some k ∨ w.heap.size ≤ k)) (fun i _ => xs.length - (intOf i).toNat)
 case atStart => exact ⟨0, v, Nat.zero_le _, rfl, by simpa [encIs] using hp, Kept.refl _ _, fun k hk => .inl hk⟩
 case round =>
  obtain ⟨k, v', hk, rfl, hpw, hkept, Hown⟩ := hrel
  by_cases hlt : k < xs.length
  ·
   have hi := Hx.out _ hkept
   obtain ⟨b, off, rfl, _, hc⟩ := hi.at (by omega)
   have hck := hc k hlt
   clear hc
   obtain ⟨n, hn⟩ : ∃ n, n = xs[k] := ⟨_, rfl⟩
   have hb := HR.out _ (List.getElem_mem hlt)
   rw [← hn] at hck hb
   have hz := zig_bits n hb
   have hzl := zig_lt n hb
   obtain ⟨z, hzz⟩ : ∃ z, z = zig n := ⟨_, rfl⟩
   rw [← hzz] at hz hzl
   have Hn := Lh hn
   have Hzz := Lh hzz
   clear hn hzz
   go_wp2_with fail
   go_loopw [6] (fun zz wr => ∃ (z' : Nat) (v'' : Value) (m : List UInt8), zz = .int .u64 (z' : Int) ∧ z' < 18446744073709551616 ∧ Hid (m ++ venc z' = (l ++ encIs (xs.take k)) ++ encI n) ∧ PW tw rs wr g v'' m lg ∧ Kept (fun k => k = g ∨ v.ownBlock = some k) w wr ∧ Hid (∀ k, v''.ownBlock = some k → v.ownBlock = some k ∨ w.heap.size ≤ k)) (fun zz _ => (intOf zz).toNat)
   case atStart => exact ⟨z, v', _, rfl, hzl, by (show _ = _; rw [Hzz.out]; rfl), hpw, hkept, Hown⟩
   case round =>
    obtain ⟨z', v'', m, rfl, hzl2, Hm, hpw2, hk2, Hown2⟩ := hrel
    clear hz hpw hkept Hown hck hi
    have hml : m.length ≤ 140737488355000 := by
     have e := congrArg List.length Hm.out
     have e1 := encIs_length (xs.take k) (fun n hn => HR.out n (List.mem_of_mem_take hn))
     have e2 := (encI_length n hb).1
     have e3 := Hl.out
     have e4 : (xs.take k).length ≤ xs.length := List.length_take_le' _ _
     simp only [List.length_append] at e
     omega
    obtain ⟨a2, n2, c2, hv2, Hn2, _⟩ := OwnB.named hpw2.2
    subst hv2
    have ⟨hc0, hc1, hf0, hf1⟩ := hpw2.cell
    by_cases h128 : 128 ≤ z'
    ·
     have hby := high_byte z'
     obtain ⟨c, hc⟩ : ∃ c, c = UInt8.ofNat (z' % 128 + 128) := ⟨_, rfl⟩
     rw [← hc] at hby
     have Hc := Lh hc
     clear hc
     have hlit : Bs (wr.alloc (.cells #[.int .u8 ((c).toNat : Int)] 5)) (.slice (some ⟨wr.heap.size, 0, none⟩) 1 1) [c] := Bs.block (l := [c]) (heap_new rfl) (Nat.le_refl _) (by simp [maxLen])
     go_wp2_with (first | (at_builtin; refine wpList_append_bytes_at (v := .slice a2 n2 c2) rfl (.tmp 26) (.tmp 30) 42 rfl (m := [c]) elem_byte rfl rfl (hpw2.alloc _).2 hlit (by simp; omega) (by have := hpw2.lt; simp; omega) ?_; intro a' n' c' w' Hn' ho' hg' hat'; obtain ⟨⟨hcell, hfz⟩, hpw3, hk3, hown3⟩ := PW.step _ hpw2 hk2 Hown2.out hg' ho' hat'.out))
     have hm2 : Hid ((m ++ [c]) ++ venc (z' / 128) = (l ++ encIs (xs.take k)) ++ encI n) := by
      show _ = _
      rw [← Hm.out, venc_high z' h128, ← Hc.out, List.append_assoc]
      rfl
     exact ⟨⟨z' / 128, _, m ++ [c], by push_cast; rfl, by omega, hm2, hpw3, hk3, hown3⟩, by simp [intOf]; omega⟩
    ·
     have hcn := low_byte z' (by omega)
     obtain ⟨c, hc⟩ : ∃ c, c = UInt8.ofNat z' := ⟨_, rfl⟩
     rw [← hc] at hcn
     have hci : (z' : Int) = (c.toNat : Int) := by omega
     have Hc := Lh hc
     have Hcn := Lh hcn
     clear hc hcn
     have hlit : Bs (wr.alloc (.cells #[.int .u8 (z' : Int)] 5)) (.slice (some ⟨wr.heap.size, 0, none⟩) 1 1) [c] := by
      rw [hci]
      exact Bs.block (l := [c]) (heap_new rfl) (Nat.le_refl _) (by simp [maxLen])
     clear hci
     have hd128 : decide (128 ≤ (z' : Int)) = false := by simp; omega
     go_wp2_with (first | (at_builtin; refine wpList_append_bytes_at (v := .slice a2 n2 c2) rfl (.tmp 40) (.tmp 43) 42 rfl (m := [c]) elem_byte rfl rfl (hpw2.alloc _).2 hlit (by simp; omega) (by have := hpw2.lt; simp; omega) ?_; intro a' n' c' w' Hn' ho' hg' hat'; obtain ⟨⟨hcell, hfz⟩, hpw3, hk3, hown3⟩ := PW.step _ hpw2 hk2 Hown2.out hg' ho' hat'.out))
     have hm2 : m ++ [c] = l ++ encIs (xs.take (k + 1)) := by
      rw [take_snoc xs k hlt, encIs_snoc, ← Hn.out, ← List.append_assoc, ← Hm.out, venc_low z' (by omega), ← Hc.out]
     rw [hm2] at hpw3
     exact ⟨⟨k + 1, _, by omega, by push_cast; rfl, hpw3, hk3, hown3⟩, by simp [intOf]; omega⟩
  ·
   have hk' : k = xs.length := by omega
   rw [List.take_of_length_le (by omega)] at hpw
   go_wp2_with fail
   go_end0
   exact ⟨rfl, v', hpw, hkept, Hown.out⟩
variable {tw : TypeId} {rs : List Value}
def markB (b : Bool) : List UInt8 := if b then [1] else [0]
theorem WMark_any (w : World) (g : Nat) (v : Value) (l : List UInt8) (lg b : Bool) (hp : PW tw rs w g v l lg) (hlen : l.length ≤ 70368744177664) :
  Calls Tryz.prog 125 #[.pointer (some ⟨g, 0, none⟩), .bool b] w fun e w' => e = .returned (.tuple #[]) ∧ PWPost tw rs w g v (l ++ markB b) lg w' := by
 obtain ⟨a2, n2, c2, hv2, Hn2, _⟩ := OwnB.named hp.2
 subst hv2
 have ⟨hc0, hc1, hf0, hf1⟩ := hp.cell
 cases b with
 | true =>
  have hlit : Bs (w.alloc (.cells #[.int .u8 1] 5)) (.slice (some ⟨w.heap.size, 0, none⟩) 1 1) [1] := Bs.block (l := [1]) (heap_new rfl) (Nat.le_refl _) (by simp [maxLen])
  go_in
  go_wp2_with (first | (at_builtin; refine wpList_append_bytes_at (v := .slice a2 n2 c2) rfl (.tmp 9) (.tmp 10) 42 rfl (m := [1]) elem_byte rfl rfl (hp.alloc _).2 hlit (by simp; omega) (by have := hp.lt; simp; omega) ?_; intro a' n' c' w' Hn' ho' hg' hat'; obtain ⟨⟨hcell, hfz⟩, hpw3, hk3, hown3⟩ := PW.step _ hp (Kept.refl _ _) (fun k hk => .inl hk) hg' ho' hat'.out))
  go_end0
  exact ⟨rfl, _, hpw3, hk3, hown3⟩
 | false =>
  have hlit : Bs (w.alloc (.cells #[.int .u8 0] 5)) (.slice (some ⟨w.heap.size, 0, none⟩) 1 1) [0] := Bs.block (l := [0]) (heap_new rfl) (Nat.le_refl _) (by simp [maxLen])
  go_in
  go_wp2_with (first | (at_builtin; refine wpList_append_bytes_at (v := .slice a2 n2 c2) rfl (.tmp 18) (.tmp 19) 42 rfl (m := [0]) elem_byte rfl rfl (hp.alloc _).2 hlit (by simp; omega) (by have := hp.lt; simp; omega) ?_; intro a' n' c' w' Hn' ho' hg' hat'; obtain ⟨⟨hcell, hfz⟩, hpw3, hk3, hown3⟩ := PW.step _ hp (Kept.refl _ _) (fun k hk => .inl hk) hg' ho' hat'.out))
  go_end0
  exact ⟨rfl, _, hpw3, hk3, hown3⟩
theorem OwnB.lit0 {w : World} {g : Nat} (hg : g = w.heap.size) : OwnB 5 (w.alloc (.cells #[] 5)) w.heap.size (.slice (some ⟨g, 0, none⟩) 0 0) [] := by
 refine ⟨rfl, Or.inr ⟨g, 0, #[], rfl, by omega, heap_new hg, Nat.le_refl _, by simp [maxLen], rfl, rfl⟩⟩
theorem WBytes_ok (w : World) (g : Nat) (v : Value) (l : List UInt8) (hp : PW tw rs w g v l false) (hlen : l.length ≤ 70368744177664) :
  Calls Tryz.prog 68 #[.pointer (some ⟨g, 0, none⟩)] w fun e w' => (∃ r, e = .returned (.tuple #[r, (0:Int)]) ∧ OwnB 5 w' w.heap.size r l) ∧ Below w.heap.size w w' := by
 obtain ⟨a2, n2, c2, hv2, Hn2, _⟩ := OwnB.named hp.2
 subst hv2
 have ⟨_, hc1, _, _⟩ := hp.cell
 have ⟨hd0, _, _, _⟩ := (hp.alloc (.cells #[] 5)).cell
 go_in
 go_wp2_with (first | (at_builtin; refine wpList_append_bytes rfl (.tmp 8) (.tmp 12) 42 rfl (l := []) (m := l) (base := w.heap.size) elem_byte rfl rfl (OwnB.lit0 rfl) (OwnB.alloc hp.2 _).bs (by simp; omega) (by simp) ?_; intro a' n' c' w' Hn' ho' hb' hg'))
 go_ret2
 exact ⟨⟨_, rfl, ho'⟩, (Bn).trans hb'⟩
theorem Kept.heap {S : Nat → Prop} {w w' : World} (h : Kept S w w') {k : Nat} {o : Obj} (ho : w.heap[k]? = some o) (hk : ¬ S k) : w'.heap[k]? = some o := (h.block k (Array.getElem?_eq_some_iff.1 ho).1 hk).trans ho
set_option maxRecDepth 100000 in
theorem rEnc_any (w : World) (n : Int) (hn : -9223372036854775808 ≤ n ∧ n ≤ 9223372036854775807) :
  Calls Tryz.prog 128 #[n] w (RetB 5 w (encI n)) := by
 obtain ⟨z, hz⟩ : ∃ z, z = zig n := ⟨_, rfl⟩
 have hzl := zig_lt n hn
 rw [← hz] at hzl
 have Hz := Lh hz
 by_cases h0 : n < 0
 ·
  have hu : -(n + 1) * 2 + 1 = (z : Int) := by rw [hz]; unfold zig; rw [if_pos h0]; omega
  clear hz
  go_in
  go_wp2_with fail
  go_loopw [3, 4] (fun zz s wr => ∃ (z' : Nat) (a2 : Option Addr) (n2 c2 : Nat) (m : List UInt8), zz = .int .u64 (z' : Int) ∧ z' < 18446744073709551616 ∧ s = .slice a2 n2 c2 ∧ Hid (m ++ venc z' = venc z) ∧ OwnB 5 wr w.heap.size (.slice a2 n2 c2) m ∧ Below w.heap.size w wr) (fun zz _ _ => (intOf zz).toNat)
  case atStart => exact ⟨z, none, 0, 0, [], rfl, hzl, rfl, rfl, OwnB.empty _ _ _, Below.refl _ _⟩
  case round =>
   obtain ⟨z', a2, n2, c2, m, rfl, hzl2, rfl, Hm, hown, hb⟩ := hrel
   clear hu
   have hml : m.length ≤ 10 := by
    have e := congrArg List.length Hm.out
    have e2 := (venc_length z hzl).1
    simp only [List.length_append] at e
    omega
   have hsz := hb.size
   by_cases h128 : 128 ≤ z'
   ·
    obtain ⟨c, hc⟩ : ∃ c, c = UInt8.ofNat (z' % 128 + 128) := ⟨_, rfl⟩
    have hct : c.toNat = z' % 128 + 128 := by rw [hc, UInt8.toNat_ofNat']; omega
    have hci : (z' : Int) % 128 + 128 = (c.toNat : Int) := by omega
    have hti : (127 : Int) < (z' : Int) := by omega
    have Hc := Lh hc
    clear hc hct
    have hlit : Bs (wr.alloc (.cells #[.int .u8 (c.toNat : Int)] 5)) (.slice (some ⟨wr.heap.size, 0, none⟩) 1 1) [c] := Bs.block (l := [c]) (heap_new rfl) (Nat.le_refl _) (by simp [maxLen])
    go_wp2_with (first | (at_builtin; refine wpList_append_bytes (v := .slice a2 n2 c2) rfl (.tmp 18) (.tmp 23) 42 rfl (l := m) (m := [c]) (base := w.heap.size) elem_byte rfl rfl (OwnB.alloc hown _) hlit (by simp; omega) (by simp; omega) ?_; intro a' n' c' w' Hn' ho' hb' hg'))
    have hm2 : Hid ((m ++ [c]) ++ venc (z' / 128) = venc z) := by
     show _ = _
     rw [← Hm.out, venc_high z' h128, ← Hc.out, List.append_assoc]
     rfl
    exact ⟨⟨z' / 128, _, _, _, m ++ [c], by push_cast; rfl, by omega, rfl, hm2, ho', (hb.alloc hsz _).trans hb'⟩, by simp [intOf]; omega⟩
   ·
    obtain ⟨c, hc⟩ : ∃ c, c = UInt8.ofNat z' := ⟨_, rfl⟩
    have hct : c.toNat = z' := by rw [hc, UInt8.toNat_ofNat']; omega
    have hci : (z' : Int) = (c.toNat : Int) := by omega
    have hti : decide ((127 : Int) < (z' : Int)) = false := by simp; omega
    have Hc := Lh hc
    have hlit : Bs (wr.alloc (.cells #[.int .u8 (z' : Int)] 5)) (.slice (some ⟨wr.heap.size, 0, none⟩) 1 1) [c] := by
     rw [hci]
     exact Bs.block (l := [c]) (heap_new rfl) (Nat.le_refl _) (by simp [maxLen])
    clear hc hct hci
    go_wp2_with (first | (at_builtin; refine wpList_append_bytes (v := .slice a2 n2 c2) rfl (.tmp 27) (.tmp 30) 42 rfl (l := m) (m := [c]) (base := w.heap.size) elem_byte rfl rfl (OwnB.alloc hown _) hlit (by simp; omega) (by simp; omega) ?_; intro a' n' c' w' Hn' ho' hb' hg'))
    go_ret
    have hm2 : m ++ [c] = encI n := by
     unfold encI
     rw [← Hz.out, ← Hm.out, venc_low z' (by omega), ← Hc.out]
    rw [hm2] at ho'
    exact ⟨_, rfl, ho', (hb.alloc hsz _).trans hb'⟩
 ·
  have hu : n * 2 = (z : Int) := by rw [hz]; unfold zig; rw [if_neg h0]; omega
  have h0' : decide (n < 0) = false := by simp; omega
  clear hz
  go_in
  go_wp2_with fail
  go_loopw [3, 4] (fun zz s wr => ∃ (z' : Nat) (a2 : Option Addr) (n2 c2 : Nat) (m : List UInt8), zz = .int .u64 (z' : Int) ∧ z' < 18446744073709551616 ∧ s = .slice a2 n2 c2 ∧ Hid (m ++ venc z' = venc z) ∧ OwnB 5 wr w.heap.size (.slice a2 n2 c2) m ∧ Below w.heap.size w wr) (fun zz _ _ => (intOf zz).toNat)
  case atStart => exact ⟨z, none, 0, 0, [], rfl, hzl, rfl, rfl, OwnB.empty _ _ _, Below.refl _ _⟩
  case round =>
   obtain ⟨z', a2, n2, c2, m, rfl, hzl2, rfl, Hm, hown, hb⟩ := hrel
   clear hu
   have hml : m.length ≤ 10 := by
    have e := congrArg List.length Hm.out
    have e2 := (venc_length z hzl).1
    simp only [List.length_append] at e
    omega
   have hsz := hb.size
   by_cases h128 : 128 ≤ z'
   ·
    obtain ⟨c, hc⟩ : ∃ c, c = UInt8.ofNat (z' % 128 + 128) := ⟨_, rfl⟩
    have hct : c.toNat = z' % 128 + 128 := by rw [hc, UInt8.toNat_ofNat']; omega
    have hci : (z' : Int) % 128 + 128 = (c.toNat : Int) := by omega
    have hti : (127 : Int) < (z' : Int) := by omega
    have Hc := Lh hc
    clear hc hct
    have hlit : Bs (wr.alloc (.cells #[.int .u8 (c.toNat : Int)] 5)) (.slice (some ⟨wr.heap.size, 0, none⟩) 1 1) [c] := Bs.block (l := [c]) (heap_new rfl) (Nat.le_refl _) (by simp [maxLen])
    go_wp2_with (first | (at_builtin; refine wpList_append_bytes (v := .slice a2 n2 c2) rfl (.tmp 18) (.tmp 23) 42 rfl (l := m) (m := [c]) (base := w.heap.size) elem_byte rfl rfl (OwnB.alloc hown _) hlit (by simp; omega) (by simp; omega) ?_; intro a' n' c' w' Hn' ho' hb' hg'))
    have hm2 : Hid ((m ++ [c]) ++ venc (z' / 128) = venc z) := by
     show _ = _
     rw [← Hm.out, venc_high z' h128, ← Hc.out, List.append_assoc]
     rfl
    exact ⟨⟨z' / 128, _, _, _, m ++ [c], by push_cast; rfl, by omega, rfl, hm2, ho', (hb.alloc hsz _).trans hb'⟩, by simp [intOf]; omega⟩
   ·
    obtain ⟨c, hc⟩ : ∃ c, c = UInt8.ofNat z' := ⟨_, rfl⟩
    have hct : c.toNat = z' := by rw [hc, UInt8.toNat_ofNat']; omega
    have hci : (z' : Int) = (c.toNat : Int) := by omega
    have hti : decide ((127 : Int) < (z' : Int)) = false := by simp; omega
    have Hc := Lh hc
    have hlit : Bs (wr.alloc (.cells #[.int .u8 (z' : Int)] 5)) (.slice (some ⟨wr.heap.size, 0, none⟩) 1 1) [c] := by
     rw [hci]
     exact Bs.block (l := [c]) (heap_new rfl) (Nat.le_refl _) (by simp [maxLen])
    clear hc hct hci
    go_wp2_with (first | (at_builtin; refine wpList_append_bytes (v := .slice a2 n2 c2) rfl (.tmp 27) (.tmp 30) 42 rfl (l := m) (m := [c]) (base := w.heap.size) elem_byte rfl rfl (OwnB.alloc hown _) hlit (by simp; omega) (by simp; omega) ?_; intro a' n' c' w' Hn' ho' hb' hg'))
    go_ret
    have hm2 : m ++ [c] = encI n := by
     unfold encI
     rw [← Hz.out, ← Hm.out, venc_low z' (by omega), ← Hc.out]
    rw [hm2] at ho'
    exact ⟨_, rfl, ho', (hb.alloc hsz _).trans hb'⟩
theorem rEncs_any (w : World) (v : Value) (xs : List Int) (h : Is w v xs) (hr : ∀ n ∈ xs, -9223372036854775808 ≤ n ∧ n ≤ 9223372036854775807) (hlen : xs.length ≤ 1000000) :
  Calls Tryz.prog 71 #[v] w (RetB 5 w (encIs xs)) := by
 obtain ⟨a, cap, rfl, hcap, hm⟩ := h.shape
 have HR := Lh hr
 clear hr
 go_in
 go_wp2_with fail
 go_loopw [3, 4] (fun s i wr => ∃ (k : Nat) (a2 : Option Addr) (n2 c2 : Nat), k ≤ xs.length ∧ i = .int .i64 k ∧ s = .slice a2 n2 c2 ∧ OwnB 5 wr w.heap.size (.slice a2 n2 c2) (encIs (xs.take k)) ∧ Below w.heap.size w wr) (fun _ i _ => xs.length - (intOf i).toNat)
 case atStart => exact ⟨0, none, 0, 0, Nat.zero_le _, rfl, rfl, OwnB.empty _ _ _, Below.refl _ _⟩
 case round =>
  obtain ⟨k, a2, n2, c2, hk, rfl, rfl, hown, hb⟩ := hrel
  by_cases hlt : k < xs.length
  ·
   obtain ⟨b, off, rfl, _, hc⟩ := (h.monoB hb (Nat.le_refl _)).at (by omega)
   have hck := hc k hlt
   clear hc
   obtain ⟨n, hn⟩ : ∃ n, n = xs[k] := ⟨_, rfl⟩
   have hbn := HR.out _ (List.getElem_mem hlt)
   rw [← hn] at hck hbn
   have en := fun w => rEnc_any w n hbn
   have hel := (encI_length n hbn).1
   have hll := encIs_length (xs.take k) (fun n hn => HR.out n (List.mem_of_mem_take hn))
   have hl2 : (xs.take k).length ≤ xs.length := List.length_take_le' _ _
   have Hn := Lh hn
   clear hn hbn
   go_wp2_with fail
   refine (en _).mono ?_
   rintro e w1 ⟨r, rfl, hr1, hb1⟩
   obtain ⟨a3, n3, c3, rfl, Hn3, _⟩ := OwnB.named hr1
   have ho1 := hown.below hb1
   have hbb := hb.next hb1
   have hsz := hbb.size
   go_wp2_with (first | (at_builtin; refine wpList_append_bytes (v := .slice a2 n2 c2) rfl (.tmp 11) (.tmp 16) 42 rfl (m := encI n) (base := w.heap.size) elem_byte rfl rfl ho1 hr1.bs (by omega) hsz ?_; intro a' n' c' w' Hn' ho' hb' hg'))
   rw [← encIs_snoc, Hn.out, ← take_snoc xs k hlt] at ho'
   exact ⟨⟨k + 1, _, _, _, by omega, by push_cast; rfl, rfl, ho', hbb.trans hb'⟩, by simp [intOf]; omega⟩
  ·
   rw [List.take_of_length_le (by omega)] at hown
   go_wp2_with fail
   go_ret
   exact ⟨_, rfl, hown, hb⟩
theorem OwnB.lit (w : World) (l : List UInt8) (hl : l.length ≤ 1000) : OwnB 5 (w.alloc (.cells (bvs l).toArray 5)) w.heap.size (.slice (some ⟨w.heap.size, 0, none⟩) l.length l.length) l := by
 have := World.ownsRow_lit (e := 5) (base := w.heap.size) (size := 1) w (bvs l).toArray l.length (Nat.le_refl _) (by unfold maxLen; omega) (by simp)
 unfold OwnB
 simpa using this
end Cam
