import Derived.Test.YtlnclfiiplpaiaaProg
import Derived.Test.YtlnclfiiplpaiaaMem
import Derived.Test.YtlnclfiiplpaiaaBez
import Derived.WalkLawsBesides
import Derived.WalkSpells
import Derived.Deep.WholeRow
import Derived.Lib.Hide
/- frame.table, frame.Sum and the reference's Sum: CRC-32. -/
namespace Cam
open Go Go.RowKit Go.Proofs
theorem low_bit {x r : Nat} (hx : x < 4294967296) (h : x % 2 = r) : (Go.bits BinOp.and IntKind.u32 (x : Int) 1 == 1) = decide (r = 1) := by
 have h1 := u32_and_nat x 1 hx (by decide)
 rw [show ((1 : Nat) : Int) = 1 from rfl] at h1
 rw [h1, nat_mask1, h]
 rcases Nat.mod_two_eq_zero_or_one x with hp | hp <;> rw [hp] at h <;> subst h <;> rfl
theorem xor_poly (x : Nat) (hx : x < 4294967296) : Go.bits BinOp.xor IntKind.u32 ((x : Int) / 2) 3988292384 = ((x / 2 ^^^ poly : Nat) : Int) := by
 have h1 := u32_xor_nat (x / 2) 3988292384 (by omega) (by decide)
 exact h1
def z256 : Array Value := Array.replicate 256 (.int .u32 0)
theorem zero_tab (w : World) : (zeroValue 126).run Try.prog w = .ok (.agg z256) w := by kernel_rfl
set_option maxRecDepth 20000 in
set_option maxHeartbeats 400000 in
theorem table_any (w : World) :
  Calls Try.prog 77 #[] w fun e w' => ∃ cur : Array Value, e = .returned (.agg cur) ∧ cur.size = 256 ∧ (∀ j, j < 256 → cur[j]? = some (.int .u32 (tbits 8 j : Nat))) ∧ Below w.heap.size w w' := by
 have hz := zero_tab
 go_enter Try.func77, Try.ntmps77
 go_wp2
 go_loopw [5] (fun i wr => ∃ (k : Nat) (cur : Array Value), k ≤ 256 ∧ i = .int .i64 k ∧ cur.size = 256 ∧ (∀ j, j < k → cur[j]? = some (.int .u32 (tbits 8 j : Nat))) ∧ wr = (w.alloc (.cells z256 126)).alloc (.cells cur 126)) (fun i _ => 256 - (intOf i).toNat)
 case atStart => exact ⟨0, z256, by omega, rfl, by simp [z256], fun j hj => by omega, rfl⟩
 case round =>
  obtain ⟨k, cur, hk, rfl, hcs, hcur, rfl⟩ := hrel
  by_cases hlt : k < 256
  ·
   obtain ⟨x, hx⟩ : ∃ x, cur[k]? = some x := ⟨cur[k], by simp⟩
   have hcur' := Lib.hid hcur
   have hcs' := Lib.hid hcs
   clear hcur hcs
   go_wp2
   go_loop [3, 10] (fun s i => ∃ m : Nat, m ≤ 8 ∧ i = .int .i64 m ∧ s = .int .u32 (tbits m k : Nat)) (fun _ i => 8 - (intOf i).toNat)
   case atStart => exact ⟨0, by omega, rfl, rfl⟩
   case round =>
    obtain ⟨m, hm, rfl, rfl⟩ := hrel
    have hb := tbits_lt (s := k) m (by omega)
    by_cases hlm : m < 8
    ·
     have hst := tbits_succ' m k
     rcases Nat.mod_two_eq_zero_or_one (tbits m k) with hp | hp
     ·
      have hq := low_bit hb hp
      have hst' := Lib.hid hst
      have hp' := Lib.hid hp
      clear hp hst
      go_wp2
      go_round
      case rel => exact ⟨m + 1, by omega, by go_num, by rw [hst'.out, tbit, hp'.out]; rfl⟩
      case measure => simp [intOf]; omega
     ·
      have hq := low_bit hb hp
      have hst' := Lib.hid hst
      have hp' := Lib.hid hp
      clear hp hst
      go_wp2
      go_round
      case rel => exact ⟨m + 1, by omega, by go_num, by rw [hst'.out, tbit, hp'.out, xor_poly _ hb]; rfl⟩
      case measure => simp [intOf]; omega
    ·
     obtain rfl : m = 8 := by omega
     go_wp2
     go_roundw
     case rel =>
      refine ⟨k + 1, cur.setIfInBounds k (.int .u32 (tbits 8 k : Nat)), by omega, by go_num, by simp [hcs'.out], ?_, rfl⟩
      intro j hj
      rw [Array.getElem?_setIfInBounds, hcs'.out]
      by_cases e : k = j
      ·
       subst e; simp [hlt]
      ·
       rw [if_neg e]; exact hcur'.out j (by omega)
     case measure => simp [intOf]; omega
  ·
   have hcur' := Lib.hid hcur
   have hcs' := Lib.hid hcs
   clear hcur hcs
   have h1c : cur.all (·.oneCell') = true := by
    rw [Array.all_eq_true]
    intro i hi
    have := hcur'.out i (by have := hcs'.out; omega)
    rw [Array.getElem?_eq_getElem hi] at this
    rw [Option.some.inj this]
    rfl
   have hsz : (Try.prog.info? 126).map (·.size) = some cur.size := by rw [hcs'.out]; kernel_rfl
   have hg1 : ((w.alloc (.cells z256 126)).alloc (.cells cur 126)).heap[w.heap.size]? = some (.cells z256 126) := heap_alloc2_old _ _ _
   have hn1 : z256.size = cur.size := by rw [hcs'.out]; simp [z256]
   have H1 := Lib.hid h1c
   have H2 := Lib.hid hsz
   have H3 := Lib.hid hg1
   have H4 := Lib.hid hn1
   clear h1c hsz hg1 hn1
   go_wp2_with (first
    | refine wpList_load_row rfl 126 (.tmp 1) rfl (w.heap.size + 1) rfl 126 cur (0, 0) (.array 256 97) (heap_alloc2_new _ _ _) Try.underlying126 rfl H2.out ?_
    | refine wpList_store_row rfl 126 (.tmp 0) (.tmp 25) rfl w.heap.size cur rfl rfl 126 z256 H3.out H2.out H4.out H1.out ?_)
   refine bodyPost_ret (results_cell_row rfl _ _ w.heap.size 126 cur (0, 0) (.array 256 97) rfl (setRow_heap _ _ _ _ _ _ H3.out) Try.underlying126 rfl H2.out) rfl ⟨cur, rfl, hcs'.out, fun j hj => hcur'.out j (by omega), ?_⟩
   exact Below.setRow (((Below.refl _ _).alloc (Nat.le_refl _) _).alloc (by simp) _) (Nat.le_refl _) _
theorem wpList_store_new {P : Program} {ops : Array Oper} {rest : List Oper} {o : Oper} {a : Act} {w : World} {Q : Exit → Act → World → Prop} (hgd : o.guard = none) (ty : TypeId) (x y : Operand) (ho : o.op = .store ty x y)
  (cells : Array Value) (t : TypeId) (old : Array Value) (hx : a.eval x = .pointer (some ⟨w.heap.size, 0, none⟩)) (hy : a.eval y = .agg cells)
  (hi : (P.info? ty).map (·.size) = some cells.size)
  (hold : old.size = cells.size) (h1 : cells.all (·.oneCell') = true)
  (h : wpList P ops Q rest (a.put o.dst undef) (w.alloc (.cells cells t))) : wpList P ops Q (o :: rest) a (w.alloc (.cells old t)) :=
 wpList_store_row hgd ty x y ho w.heap.size cells hx hy t old (heap_alloc_last w _) hi hold h1 (by rw [World.setRow_alloc_new]; exact h)
theorem table_index (s : Nat) (c : UInt8) : ∃ n, n < 256 ∧ n = s % 256 ^^^ c.toNat ∧ Go.bits BinOp.xor IntKind.u8 ((s : Int) % 256) (c.toNat : Int) = (n : Int) := by
 have hc := c.toNat_lt
 refine ⟨s % 256 ^^^ c.toNat, Nat.xor_lt_two_pow (n := 8) (by omega) hc, rfl, ?_⟩
 have h := u8_xor_nat (s % 256) c.toNat (by omega) (by simpa using hc)
 rw [← h]
 simp
theorem table_step {s n : Nat} {c : UInt8} (hs : s < 4294967296) (hn : n = s % 256 ^^^ c.toNat) :
  Value.int IntKind.u32 (Go.bits BinOp.xor IntKind.u32 ((tbits 8 n : Nat) : Int) ((s : Int) / 256)) = Value.int IntKind.u32 (feed s c.toNat : Nat) := by
 have hc := c.toNat_lt
 have hn2 : n < 4294967296 := by
  have : n < 256 := by rw [hn]; exact Nat.xor_lt_two_pow (n := 8) (by omega) hc
  omega
 have h := u32_xor_nat (tbits 8 n) (s / 256) (tbits_lt 8 hn2) (by omega)
 rw [feed_table, ← hn, ← h]
 simp
theorem crc_spell {s : Nat} (hs : s < 4294967296) : Go.bits BinOp.xor IntKind.u32 IntKind.u32.max (s : Int) = ((s ^^^ 4294967295 : Nat) : Int) := by
 have h := u32_xor_nat 4294967295 s (by decide) hs
 rw [Nat.xor_comm]
 exact h
theorem tab_oneCell {cur : Array Value} (hs : cur.size = 256) (hcur : ∀ j, j < 256 → cur[j]? = some (.int .u32 (tbits 8 j : Nat))) : cur.all (·.oneCell') = true := by
 rw [Array.all_eq_true]
 intro i hi
 have := hcur i (by omega)
 rw [Array.getElem?_eq_getElem hi] at this
 rw [Option.some.inj this]
 rfl
set_option maxRecDepth 20000 in
set_option maxHeartbeats 400000 in
theorem Sum_any (w : World) (v : Value) (ls : List (List UInt8)) (h : Bss w v ls) :
  Calls Try.prog 73 #[v] w fun e w' => e = .returned (.int .u32 (crc ls.flatten : Nat)) ∧ Below w.heap.size w w' := by
 obtain ⟨vs, hvl, hsl, hbs⟩ := h
 obtain ⟨a, cap, rfl, hcap, hm⟩ := hsl.shape
 have hz := zero_tab
 go_enter Try.func73, Try.ntmps73
 have Hvl := Lib.hid hvl
 clear hvl
 go_wp2_with fail
 refine (table_any _).mono ?_
 rintro e w1 ⟨cur, rfl, hcs, hcur, hb1⟩
 have H1 := Lib.hid (tab_oneCell hcs hcur)
 have H2 : Hid (z256.size = cur.size) := by show z256.size = cur.size; simp [z256, hcs]
 have H3 : Hid ((Try.prog.info? 126).map (·.size) = some cur.size) := by show Option.map _ _ = _; rw [hcs]; kernel_rfl
 have Hcur := Lib.hid hcur
 clear hcur hcs
 go_wp2_with (refine wpList_store_new rfl 126 (.tmp 3) (.tmp 9) rfl cur 126 z256 rfl rfl H3.out H2.out H1.out ?_)
 obtain ⟨w2, hw2⟩ : ∃ w2, w2 = w1.alloc (.cells cur 126) := ⟨_, rfl⟩
 have hb2 : Below w.heap.size w w2 := by rw [hw2]; exact hb1.alloc hb1.size _
 have ht : ∀ j, j < 256 → w2.cell? ⟨w1.heap.size, j, none⟩ = some (.int .u32 (tbits 8 j : Nat)) := by
  intro j hj
  rw [hw2, World.cell?_alloc_at _ _ _ _ rfl]
  exact Hcur.out j hj
 rw [← hw2]
 clear hw2
 have Ht := Lib.hid ht
 clear ht
 go_loop [4, 12] (fun s i => ∃ k : Nat, k ≤ ls.length ∧ i = .int .i64 k ∧ s = .int .u32 (crcRun 4294967295 (ls.take k).flatten : Nat)) (fun _ i => ls.length - (intOf i).toNat)
 case atStart => exact ⟨0, Nat.zero_le _, rfl, rfl⟩
 case round =>
  obtain ⟨k, hk, rfl, rfl⟩ := hrel
  by_cases hlt : k < ls.length
  ·
   have hlv : k < vs.length := by rw [Hvl.out]; exact hlt
   obtain ⟨b, off, rfl, _, hc⟩ := (hsl.mono hb2).at (by omega)
   have hck := hc k hlv
   have hbk := (hbs k hlt hlv).mono hb2
   clear hc
   obtain ⟨ak, capk, hv, hcapk, hmk⟩ := hbk.shape
   rw [hv] at hck hbk
   clear hv
   obtain ⟨l, hl⟩ : ∃ l, l = ls[k] := ⟨_, rfl⟩
   rw [← hl] at hck hbk hcapk
   have Hl := Lib.hid hl
   clear hl
   obtain ⟨s0, hs0⟩ : ∃ s0, s0 = crcRun 4294967295 (ls.take k).flatten := ⟨_, rfl⟩
   have hs0lt : s0 < 4294967296 := by rw [hs0]; exact crcRun_lt _ (by decide)
   rw [← hs0]
   have Hs0 := Lib.hid hs0
   clear hs0
   go_wp2
   go_loop [4, 18] (fun s i => ∃ j : Nat, j ≤ l.length ∧ i = .int .i64 j ∧ s = .int .u32 (crcRun s0 (l.take j) : Nat)) (fun _ i => l.length - (intOf i).toNat)
   case atStart => exact ⟨0, Nat.zero_le _, rfl, rfl⟩
   case round =>
    obtain ⟨j, hj, rfl, rfl⟩ := hrel
    have hslt := crcRun_lt (l.take j) hs0lt
    by_cases hlj : j < l.length
    ·
     obtain ⟨b', off', rfl, _, hc'⟩ := hbk.at (by omega)
     have hcj := hc' j hlj
     clear hc'
     obtain ⟨s1, hs1⟩ : ∃ s1, s1 = crcRun s0 (l.take j) := ⟨_, rfl⟩
     rw [← hs1] at hslt ⊢
     obtain ⟨n, hn, hn2, hix⟩ := table_index s1 l[j]
     have htn := Ht.out n hn
     have Hs1 := Lib.hid hs1
     have Hn := Lib.hid hn2
     clear hs1 hn2
     go_wp2
     go_round
     case rel => exact ⟨j + 1, by omega, by go_num, by rw [table_step hslt Hn.out, Hs1.out, take_snoc _ _ hlj, crcRun_snoc]⟩
     case measure => simp [intOf]; omega
    ·
     obtain rfl : j = l.length := by omega
     rw [List.take_length]
     go_wp2
     go_round
     case rel => exact ⟨k + 1, by omega, by go_num, by rw [take_snoc _ _ hlt, List.flatten_append, crcRun_append, ← Hs0.out, ← Hl.out]; simp⟩
     case measure => simp [intOf]; omega
  ·
   obtain rfl : k = ls.length := by omega
   rw [List.take_length]
   have hslt := crcRun_lt ls.flatten (s := 4294967295) (by decide)
   go_wp2
   go_ret
   exact ⟨by rw [crc_spell hslt]; rfl, hb2⟩
theorem ref_low {c b k : Nat} (hc : c < 4294967296) (hb : b < 256) :
  Go.bits BinOp.xor IntKind.u32 (Go.bits BinOp.and IntKind.u32 (c : Int) 1) (Go.bits BinOp.and IntKind.u32 ((b : Int) / 2 ^ k % 4294967296) 1) = ((c % 2 ^^^ b / 2 ^ k % 2 : Nat) : Int) := by
 have hd : b / 2 ^ k < 4294967296 := Nat.lt_of_le_of_lt (Nat.div_le_self _ _) (by omega)
 have e : ((b : Int) / 2 ^ k % 4294967296) = ((b / 2 ^ k : Nat) : Int) := by
  rw [show ((b : Int) / 2 ^ k) = ((b / 2 ^ k : Nat) : Int) by simp]
  have hd' : ((b / 2 ^ k : Nat) : Int) < 4294967296 := by generalize b / 2 ^ k = q at hd ⊢; omega
  exact Int.emod_eq_of_lt (Int.natCast_nonneg _) hd'
 have h1 := u32_and_nat c 1 hc (by decide)
 have h2 := u32_and_nat (b / 2 ^ k) 1 hd (by decide)
 rw [show ((1 : Nat) : Int) = 1 from rfl] at h1 h2
 rw [e, h1, h2, nat_mask1, nat_mask1]
 exact u32_xor_nat _ _ (by omega) (by omega)
theorem xor2_cases (x y : Nat) : (x % 2 ^^^ y % 2) = 0 ∨ (x % 2 ^^^ y % 2) = 1 := by
 rcases Nat.mod_two_eq_zero_or_one x with h1 | h1 <;> rcases Nat.mod_two_eq_zero_or_one y with h2 | h2 <;> rw [h1, h2] <;> simp
theorem refReg_lt {s c : Nat} (k : Nat) (hs : s < 4294967296) (hc : c < 256) : refReg s c k < 4294967296 :=
 xor_lt32 (tbits_lt k (xor_lt32 hs (by omega))) (Nat.lt_of_le_of_lt (Nat.div_le_self _ _) (by omega))
set_option maxHeartbeats 400000 in
theorem refSum_any (w : World) (v : Value) (l : List UInt8) (h : Bs w v l) :
  Calls Try.prog 48 #[v] w fun e w' => e = .returned (.int .u32 (crc l : Nat)) ∧ w = w' := by
 obtain ⟨a, cap, rfl, hcap, hm⟩ := h.shape
 go_enter Try.func48, Try.ntmps48
 go_wp2
 go_loop [3, 4] (fun s i => ∃ k : Nat, k ≤ l.length ∧ i = .int .i64 k ∧ s = .int .u32 (crcRun 4294967295 (l.take k) : Nat)) (fun _ i => l.length - (intOf i).toNat)
 case atStart => exact ⟨0, Nat.zero_le _, rfl, rfl⟩
 case round =>
  obtain ⟨k, hk, rfl, rfl⟩ := hrel
  have hslt := crcRun_lt (l.take k) (s := 4294967295) (by decide)
  by_cases hlt : k < l.length
  ·
   obtain ⟨b, off, rfl, _, hc⟩ := h.at (by omega)
   have hck := hc k hlt
   clear hc
   obtain ⟨s0, hs0⟩ : ∃ s0, s0 = crcRun 4294967295 (l.take k) := ⟨_, rfl⟩
   obtain ⟨c, hcc⟩ : ∃ c, c = l[k].toNat := ⟨_, rfl⟩
   have hc256 : c < 256 := by rw [hcc]; exact l[k].toNat_lt
   rw [← hs0] at hslt ⊢
   rw [← hcc] at hck
   have Hs0 := Lib.hid hs0
   have Hcc := Lib.hid hcc
   clear hs0 hcc
   go_wp2
   go_loop [3, 5] (fun s i => ∃ j : Nat, j ≤ 8 ∧ i = .int .i64 j ∧ s = .int .u32 (refReg s0 c j : Nat)) (fun _ i => 8 - (intOf i).toNat)
   case atStart => exact ⟨0, by omega, rfl, by rw [refReg_zero]⟩
   case round =>
    obtain ⟨j, hj, rfl, rfl⟩ := hrel
    have hr := refReg_lt j hslt hc256
    by_cases hlj : j < 8
    ·
     have hst := refReg_step s0 c j
     have hlow := ref_low (k := j) hr hc256
     rcases xor2_cases (refReg s0 c j) (c / 2 ^ j) with hx | hx
     ·
      rw [hx] at hlow
      rw [hx, if_neg (by decide)] at hst
      have Hst := Lib.hid hst
      clear hst hx
      go_wp2
      go_round
      case rel => exact ⟨j + 1, by omega, by go_num, by rw [Hst.out]; rfl⟩
      case measure => simp [intOf]; omega
     ·
      rw [hx] at hlow
      rw [hx, if_pos rfl] at hst
      have Hst := Lib.hid hst
      clear hst hx
      go_wp2
      go_round
      case rel => exact ⟨j + 1, by omega, by go_num, by rw [Hst.out, xor_poly _ hr]⟩
      case measure => simp [intOf]; omega
    ·
     obtain rfl : j = 8 := by omega
     go_wp2
     go_round
     case rel => exact ⟨k + 1, by omega, by go_num, by rw [refReg_eight _ _ hc256, Hs0.out, Hcc.out, take_snoc _ _ hlt, crcRun_snoc]⟩
     case measure => simp [intOf]; omega
  ·
   obtain rfl : k = l.length := by omega
   rw [List.take_length] at hslt ⊢
   go_wp2
   go_ret
   exact ⟨by rw [crc_spell hslt]; rfl, rfl⟩
end Cam
