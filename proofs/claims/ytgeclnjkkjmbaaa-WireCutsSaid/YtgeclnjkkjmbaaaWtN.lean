import Derived.Test.YtgeclnjkkjmbaaaVf
import Derived.Test.YtgeclnjkkjmbaaaWtM
import Derived.Test.YtgeclnjkkjmbaaaKeep
import Derived.Deep.DeepCutAuto
/- WireCuts: the walk. -/
namespace Cam
open Go Go.RowKit Go.Proofs

theorem encI_pos (n : Int) (h : -9223372036854775808 ≤ n ∧ n ≤ 9223372036854775807) : 0 < (encI n).length := by
  have h1 := rI_enc n [] h
  rw [List.append_nil] at h1
  cases he : encI n with
  | nil => rw [he] at h1; simp [rI, vdec] at h1
  | cons a l => simp
theorem encIs_pos {n : Int} {l : List Int} (h : okI (n :: l)) : 0 < (encIs (n :: l)).length := by
  have h1 := encI_pos n (h n (by simp))
  rw [show n :: l = [n] ++ l from rfl, encIs_app, List.length_append]
  simp [encIs]
  omega
theorem as_u64c (x : Int) : ∃ u : Nat, IntKind.u64.wrap x = (u : Int) ∧ u < 18446744073709551616 := by
  refine ⟨(IntKind.u64.wrap x).toNat, ?_, ?_⟩
  · rw [IntKind.wrap_u64]
    omega
  · rw [IntKind.wrap_u64]
    omega
theorem bE_cases (b : Bool) (l : List UInt8) : (bE b l = 0 ∧ bL b l = l ∧ b = false ∧ l.length ≤ 65536) ∨ bE b l = 6 := by
  unfold bE bL
  by_cases h : b = true ∨ 65536 < l.length
  · exact .inr (by rw [if_pos h])
  · refine .inl ⟨by rw [if_neg h], by rw [if_neg h], ?_, by omega⟩
    cases b
    · rfl
    · exact absurd (.inl rfl) h
theorem Bs.pre {w : World} {a : Option Addr} {n c : Nat} {l : List UInt8} (h : Bs w (.slice a n c) l) {r : Nat} (hr : r ≤ l.length) (hr0 : r < n) : Bs w (.slice a r c) (l.take r) := by
  have h1 := h.cut 0 r (by omega) hr
  simp only [Nat.zero_mul, Nat.sub_zero, List.drop_zero] at h1
  have hc : ¬ c = 0 := by obtain ⟨_, c', e, h2, _⟩ := h.shape; injection e with e1 e2 e3; omega
  rw [if_neg hc] at h1
  cases a with
  | none => exact h1
  | some ad => simpa [Addr.add] using h1
theorem OwnB.from_le {t : TypeId} {w : World} {base : Nat} {v : Value} {l : List UInt8} (h : OwnB t w base v l) : ∀ k, v.ownBlock = some k → base ≤ k := fun k hk => (World.ownsRow.lt h k hk).1
set_option maxRecDepth 100000 in
set_option maxHeartbeats 6400000 in
theorem WireCuts_walk (w : World) (x0 x1 x2 x3 x4 x5 x6 x7 x8 x9 x10 x11 x12 x13 x14 x15 x16 : Int) (hrx : okI [x0, x1, x2, x3, x4, x5, x6, x7, x8, x9, x10, x11, x12, x13, x14, x15, x16]) (a1 : Option Addr) (n1 c1 : Nat) (a2 : Option Addr) (n2 c2 : Nat) (a3 : Option Addr) (n3 c3 : Nat) (a4 : Option Addr) (n4 c4 : Nat) (a5 : Option Addr) (n5 c5 : Nat) (a6 : Option Addr) (n6 c6 : Nat) (a7 : Option Addr) (n7 c7 : Nat) (a8 : Option Addr) (n8 c8 : Nat) (a9 : Option Addr) (n9 c9 : Nat) (a10 : Option Addr) (n10 c10 : Nat) (L : List SV) (s : StT) (hst : StC w a1 n1 c1 a2 n2 c2 a3 n3 c3 a4 n4 c4 a5 n5 c5 a6 n6 c6 a7 n7 c7 a8 n8 c8 a9 n9 c9 a10 n10 c10 L s) (hok : s.ok) (at0 : Int) (c : UInt8) :
    Calls Try.prog 6 #[.agg #[.int .i64 x0, .int .i64 x1, .int .i64 x2, .int .i64 x3, .int .i64 x4, .int .i64 x5, .int .i64 x6, .int .i64 x7, .int .i64 x8, .int .i64 x9, .int .i64 x10, .int .i64 x11, .int .i64 x12, .int .i64 x13, .int .i64 x14, .int .i64 x15, .int .i64 x16], .agg #[.int .i64 s.now, .int .i64 s.day, .int .i64 s.ph, .slice a1 n1 c1, .slice a2 n2 c2, .slice a3 n3 c3, .int .i64 s.nx, .slice a4 n4 c4, .slice a5 n5 c5, .int .i64 s.la, .slice a6 n6 c6, .slice a7 n7 c7, .slice a8 n8 c8, .slice a9 n9 c9, .slice a10 n10 c10], .int .i64 at0, .int .u8 (c.toNat : Int)] w fun e w' => e = .returned (.bool true) ∧ Below w.heap.size w w' := by
  have hb1 : Below w.heap.size w (w.alloc (.cells #[.int .i64 x0, .int .i64 x1, .int .i64 x2, .int .i64 x3, .int .i64 x4, .int .i64 x5, .int .i64 x6, .int .i64 x7, .int .i64 x8, .int .i64 x9, .int .i64 x10, .int .i64 x11, .int .i64 x12, .int .i64 x13, .int .i64 x14, .int .i64 x15, .int .i64 x16] 24)) := (Below.refl _ _).alloc (Nat.le_refl _) _
  have hb2 : Below w.heap.size w ((w.alloc (.cells #[.int .i64 x0, .int .i64 x1, .int .i64 x2, .int .i64 x3, .int .i64 x4, .int .i64 x5, .int .i64 x6, .int .i64 x7, .int .i64 x8, .int .i64 x9, .int .i64 x10, .int .i64 x11, .int .i64 x12, .int .i64 x13, .int .i64 x14, .int .i64 x15, .int .i64 x16] 24)).alloc (.cells #[.int .i64 s.now, .int .i64 s.day, .int .i64 s.ph, .slice a1 n1 c1, .slice a2 n2 c2, .slice a3 n3 c3, .int .i64 s.nx, .slice a4 n4 c4, .slice a5 n5 c5, .int .i64 s.la, .slice a6 n6 c6, .slice a7 n7 c7, .slice a8 n8 c8, .slice a9 n9 c9, .slice a10 n10 c10] 72)) := hb1.alloc hb1.size _
  have hc : HT ((w.alloc (.cells #[.int .i64 x0, .int .i64 x1, .int .i64 x2, .int .i64 x3, .int .i64 x4, .int .i64 x5, .int .i64 x6, .int .i64 x7, .int .i64 x8, .int .i64 x9, .int .i64 x10, .int .i64 x11, .int .i64 x12, .int .i64 x13, .int .i64 x14, .int .i64 x15, .int .i64 x16] 24)).alloc (.cells #[.int .i64 s.now, .int .i64 s.day, .int .i64 s.ph, .slice a1 n1 c1, .slice a2 n2 c2, .slice a3 n3 c3, .int .i64 s.nx, .slice a4 n4 c4, .slice a5 n5 c5, .int .i64 s.la, .slice a6 n6 c6, .slice a7 n7 c7, .slice a8 n8 c8, .slice a9 n9 c9, .slice a10 n10 c10] 72)) w.heap.size 24 [.int .i64 x0, .int .i64 x1, .int .i64 x2, .int .i64 x3, .int .i64 x4, .int .i64 x5, .int .i64 x6, .int .i64 x7, .int .i64 x8, .int .i64 x9, .int .i64 x10, .int .i64 x11, .int .i64 x12, .int .i64 x13, .int .i64 x14, .int .i64 x15, .int .i64 x16] := (HT.new (w := w)).below ((Below.refl _ _).alloc (Nat.le_refl _) _)
  have hs : HT ((w.alloc (.cells #[.int .i64 x0, .int .i64 x1, .int .i64 x2, .int .i64 x3, .int .i64 x4, .int .i64 x5, .int .i64 x6, .int .i64 x7, .int .i64 x8, .int .i64 x9, .int .i64 x10, .int .i64 x11, .int .i64 x12, .int .i64 x13, .int .i64 x14, .int .i64 x15, .int .i64 x16] 24)).alloc (.cells #[.int .i64 s.now, .int .i64 s.day, .int .i64 s.ph, .slice a1 n1 c1, .slice a2 n2 c2, .slice a3 n3 c3, .int .i64 s.nx, .slice a4 n4 c4, .slice a5 n5 c5, .int .i64 s.la, .slice a6 n6 c6, .slice a7 n7 c7, .slice a8 n8 c8, .slice a9 n9 c9, .slice a10 n10 c10] 72)) (w.heap.size + 1) 72 [.int .i64 s.now, .int .i64 s.day, .int .i64 s.ph, .slice a1 n1 c1, .slice a2 n2 c2, .slice a3 n3 c3, .int .i64 s.nx, .slice a4 n4 c4, .slice a5 n5 c5, .int .i64 s.la, .slice a6 n6 c6, .slice a7 n7 c7, .slice a8 n8 c8, .slice a9 n9 c9, .slice a10 n10 c10] := by
    have := HT.new (w := w.alloc (.cells #[.int .i64 x0, .int .i64 x1, .int .i64 x2, .int .i64 x3, .int .i64 x4, .int .i64 x5, .int .i64 x6, .int .i64 x7, .int .i64 x8, .int .i64 x9, .int .i64 x10, .int .i64 x11, .int .i64 x12, .int .i64 x13, .int .i64 x14, .int .i64 x15, .int .i64 x16] 24)) (t := 72) (C := [.int .i64 s.now, .int .i64 s.day, .int .i64 s.ph, .slice a1 n1 c1, .slice a2 n2 c2, .slice a3 n3 c3, .int .i64 s.nx, .slice a4 n4 c4, .slice a5 n5 c5, .int .i64 s.la, .slice a6 n6 c6, .slice a7 n7 c7, .slice a8 n8 c8, .slice a9 n9 c9, .slice a10 n10 c10])
    rw [show (w.alloc (.cells #[.int .i64 x0, .int .i64 x1, .int .i64 x2, .int .i64 x3, .int .i64 x4, .int .i64 x5, .int .i64 x6, .int .i64 x7, .int .i64 x8, .int .i64 x9, .int .i64 x10, .int .i64 x11, .int .i64 x12, .int .i64 x13, .int .i64 x14, .int .i64 x15, .int .i64 x16] 24)).heap.size = w.heap.size + 1 by simp] at this
    exact this
  have hstm : ∀ w', Below w.heap.size w w' → StC w' a1 n1 c1 a2 n2 c2 a3 n3 c3 a4 n4 c4 a5 n5 c5 a6 n6 c6 a7 n7 c7 a8 n8 c8 a9 n9 c9 a10 n10 c10 L s := fun w' hb => by
    obtain ⟨r1, r2, r3, r4, r5, r6, r7, r8, r9, r10, hlm, hsv⟩ := hst
    exact ⟨r1.mono hb, r2.mono hb, r3.mono hb, r4.mono hb, r5.mono hb, r6.mono hb, r7.mono hb, r8.mono hb, r9.mono hb, r10.mono hb, hlm, fun i h h' => (hsv i h h').mono hb⟩
  have hv := Heavy_any _ a1 n1 c1 a2 n2 c2 a3 n3 c3 a4 n4 c4 a5 n5 c5 a6 n6 c6 a7 n7 c7 a8 n8 c8 a9 n9 c9 a10 n10 c10 L s (hstm _ hb2)
  obtain ⟨H, hH⟩ : ∃ H, H = stHeavy s := ⟨_, rfl⟩
  rw [← hH] at hv
  have HSZC : Hid ((Try.prog.info? 24).map (·.size) = some (#[.int .i64 x0, .int .i64 x1, .int .i64 x2, .int .i64 x3, .int .i64 x4, .int .i64 x5, .int .i64 x6, .int .i64 x7, .int .i64 x8, .int .i64 x9, .int .i64 x10, .int .i64 x11, .int .i64 x12, .int .i64 x13, .int .i64 x14, .int .i64 x15, .int .i64 x16] : Array Value).size) := by show _ = _; rw [cmdSize]; rfl
  have HSZS : Hid ((Try.prog.info? 72).map (·.size) = some (#[.int .i64 s.now, .int .i64 s.day, .int .i64 s.ph, .slice a1 n1 c1, .slice a2 n2 c2, .slice a3 n3 c3, .int .i64 s.nx, .slice a4 n4 c4, .slice a5 n5 c5, .int .i64 s.la, .slice a6 n6 c6, .slice a7 n7 c7, .slice a8 n8 c8, .slice a9 n9 c9, .slice a10 n10 c10] : Array Value).size) := by show _ = _; rw [stSz]; rfl
  have HGS : Hid (((w.alloc (.cells #[.int .i64 x0, .int .i64 x1, .int .i64 x2, .int .i64 x3, .int .i64 x4, .int .i64 x5, .int .i64 x6, .int .i64 x7, .int .i64 x8, .int .i64 x9, .int .i64 x10, .int .i64 x11, .int .i64 x12, .int .i64 x13, .int .i64 x14, .int .i64 x15, .int .i64 x16] 24)).alloc (.cells #[.int .i64 s.now, .int .i64 s.day, .int .i64 s.ph, .slice a1 n1 c1, .slice a2 n2 c2, .slice a3 n3 c3, .int .i64 s.nx, .slice a4 n4 c4, .slice a5 n5 c5, .int .i64 s.la, .slice a6 n6 c6, .slice a7 n7 c7, .slice a8 n8 c8, .slice a9 n9 c9, .slice a10 n10 c10] 72)).heap[w.heap.size + 1]? = some (.cells #[.int .i64 s.now, .int .i64 s.day, .int .i64 s.ph, .slice a1 n1 c1, .slice a2 n2 c2, .slice a3 n3 c3, .int .i64 s.nx, .slice a4 n4 c4, .slice a5 n5 c5, .int .i64 s.la, .slice a6 n6 c6, .slice a7 n7 c7, .slice a8 n8 c8, .slice a9 n9 c9, .slice a10 n10 c10] 72 (0, 0))) := hs
  have HB2 := Lib.hid hb2
  have HC := Lib.hid hc
  have HS := Lib.hid hs
  have HST := Lib.hid hstm
  have HOK := Lib.hid hok
  have HHH := Lib.hid hH
  have hne := encIs_pos hrx
  have hle := encIs_length [x0, x1, x2, x3, x4, x5, x6, x7, x8, x9, x10, x11, x12, x13, x14, x15, x16] hrx
  obtain ⟨xs, hxs⟩ : ∃ xs : List Int, xs = [x0, x1, x2, x3, x4, x5, x6, x7, x8, x9, x10, x11, x12, x13, x14, x15, x16] := ⟨_, rfl⟩
  rw [← hxs] at hne hle
  have hx17 : xs.length = 17 := by rw [hxs]; rfl
  have hrs : okI xs := by rw [hxs]; exact hrx
  have HXS := Lib.hid (⟨hxs, hx17, hrs, hne, hle⟩ : _ ∧ _ ∧ _ ∧ _ ∧ _)
  have HRX := Lib.hid hrx
  obtain ⟨u, hu, hu64⟩ := as_u64c at0
  clear hb1 hb2 hc hs hst hstm hok hH hne hle hxs hx17 hrs hrx
  go_enter Try.func6, Try.ntmps6
  go_wp2_with (first
    | (refine wpList_load_row rfl 72 (.tmp 5) rfl (w.heap.size + 1) rfl 72 #[.int .i64 s.now, .int .i64 s.day, .int .i64 s.ph, .slice a1 n1 c1, .slice a2 n2 c2, .slice a3 n3 c3, .int .i64 s.nx, .slice a4 n4 c4, .slice a5 n5 c5, .int .i64 s.la, .slice a6 n6 c6, .slice a7 n7 c7, .slice a8 n8 c8, .slice a9 n9 c9, .slice a10 n10 c10] (0, 0) _ HGS.out Try.underlying72 rfl HSZS.out ?_)
    | fail)
  refine hv.mono ?_
  clear hv
  generalize hW : (w.alloc (.cells #[.int .i64 x0, .int .i64 x1, .int .i64 x2, .int .i64 x3, .int .i64 x4, .int .i64 x5, .int .i64 x6, .int .i64 x7, .int .i64 x8, .int .i64 x9, .int .i64 x10, .int .i64 x11, .int .i64 x12, .int .i64 x13, .int .i64 x14, .int .i64 x15, .int .i64 x16] 24)).alloc (.cells #[.int .i64 s.now, .int .i64 s.day, .int .i64 s.ph, .slice a1 n1 c1, .slice a2 n2 c2, .slice a3 n3 c3, .int .i64 s.nx, .slice a4 n4 c4, .slice a5 n5 c5, .int .i64 s.la, .slice a6 n6 c6, .slice a7 n7 c7, .slice a8 n8 c8, .slice a9 n9 c9, .slice a10 n10 c10] 72) = W at *
  clear hW
  rintro e w1 ⟨rfl, hb⟩
  have HBX := Lib.hid (bgo HB2.out hb HB2.out.size)
  have HC1 := Lib.hid (HC.out.below hb)
  have HS1 := Lib.hid (HS.out.below hb)
  clear hb
  cases H with
  | true =>
    go_wp2_with fail
    go_ret
    exact ⟨rfl, HBX.out⟩
  | false =>
    have hno := stHeavy_no HHH.out.symm
    have hsz : (encG SeT.bytes s.S).length ≤ 50000000 := by
      have h1 := encG_length SeT.bytes 200100 s.S (fun x hx => SeT.blen x (HOK.out.S x hx))
      have h2 : s.S.length ≤ 100 := hno.2.2.2.2.2.2.2.2.2.1
      have h3 : s.S.length * 200100 ≤ 100 * 200100 := Nat.mul_le_mul_right _ h2
      omega
    have HSZ := Lib.hid hsz
    have cm := Cmd_any w1 x0 x1 x2 x3 x4 x5 x6 x7 x8 x9 x10 x11 x12 x13 x14 x15 x16 HRX.out
    unfold RetB at cm
    rw [← HXS.out.1] at cm
    have HGC : Hid (w1.heap[w.heap.size]? = some (.cells #[.int .i64 x0, .int .i64 x1, .int .i64 x2, .int .i64 x3, .int .i64 x4, .int .i64 x5, .int .i64 x6, .int .i64 x7, .int .i64 x8, .int .i64 x9, .int .i64 x10, .int .i64 x11, .int .i64 x12, .int .i64 x13, .int .i64 x14, .int .i64 x15, .int .i64 x16] 24 (0, 0))) := HC1.out
    clear hno hsz
    go_wp2_with (first
      | (refine wpList_load_row rfl 24 (.tmp 4) rfl w.heap.size rfl 24 #[.int .i64 x0, .int .i64 x1, .int .i64 x2, .int .i64 x3, .int .i64 x4, .int .i64 x5, .int .i64 x6, .int .i64 x7, .int .i64 x8, .int .i64 x9, .int .i64 x10, .int .i64 x11, .int .i64 x12, .int .i64 x13, .int .i64 x14, .int .i64 x15, .int .i64 x16] (0, 0) _ HGC.out Try.underlying24 rfl HSZC.out ?_)
      | fail)
    refine cm.mono ?_
    clear cm
    rintro e w2 ⟨v9, rfl, ho, hb⟩
    have HB3 := Lib.hid (bgo HBX.out hb HBX.out.size)
    have HS2 := Lib.hid (HS1.out.below hb)
    obtain ⟨l, hl⟩ : ∃ l, l = encIs xs := ⟨_, rfl⟩
    rw [← hl] at ho
    have hlp : 0 < l.length ∧ l.length ≤ 170 := by rw [hl]; have h := HXS.out; rw [h.2.1] at h; exact ⟨h.2.2.2.1, by omega⟩
    have HL := Lib.hid hl
    obtain ⟨a0, N, c0, rfl, HN, ho⟩ := OwnB.named ho
    have hN : 0 < N ∧ N ≤ 170 := by have := HN.out; omega
    have hNp : 0 < N := hN.1
    have hNle : N ≤ 170 := hN.2
    have hn0 : ((N : Int) == 0) = false := by simp; omega
    obtain ⟨r, hr, hrn⟩ : ∃ r : Nat, ((u : Int) % (N : Int)) = (r : Int) ∧ r < N := ⟨u % N, by simp, Nat.mod_lt _ (by omega)⟩
    have hcap : N ≤ c0 ∧ c0 ≤ 9223372036854775807 := by obtain ⟨_, c', e, h2, h3⟩ := ho.bs.shape; injection e with e1 e2 e3; omega
    have hc1 : N ≤ c0 := hcap.1
    have hc2 : c0 ≤ 9223372036854775807 := hcap.2
    have rc := ReadCmd_any w2 (.slice a0 r c0) (l.take r) (ho.bs.pre (by have := HN.out; omega) hrn) (by rw [List.length_take]; omega)
    unfold RcPost at rc
    obtain ⟨y0, y1, y2, y3, y4, y5, y6, y7, y8, y9, y10, y11, y12, y13, y14, y15, y16, hy⟩ := ivs_lit (readC (l.take r)).1 (readC_len _)
    have h6 : (readC (l.take r)).2 = 6 := readC_cut HXS.out.2.1 HXS.out.2.2.1 (by rw [← hl]; exact (List.take_append_drop r l).symm) (by
      intro e
      have := congrArg List.length e
      rw [List.length_drop] at this
      simp at this
      have := HN.out
      omega)
    rw [hy, h6] at rc
    simp only [ivs, List.map_cons, List.map_nil] at rc
    have HO := Lib.hid ho
    have HBN : Hid (Bs w2 (.slice a0 N c0) l) := ho.bs
    clear hy h6 ho hb hl hlp hN hcap
    go_wp2_with fail
    refine rc.mono ?_
    clear rc
    rintro e w3 ⟨rfl, hb⟩
    have HB4 := Lib.hid (bgo HB3.out hb HB3.out.size)
    have HS3 := Lib.hid (HS2.out.below hb)
    have HBN3 := Lib.hid (HBN.out.mono hb)
    clear hb
    have hbn : Below w3.heap.size w3 (w3.alloc (.cells #[.int .i64 0, .int .i64 0, .int .i64 0, .int .i64 0, .int .i64 0, .int .i64 0, .int .i64 0, .int .i64 0, .int .i64 0, .int .i64 0, .int .i64 0, .int .i64 0, .int .i64 0, .int .i64 0, .int .i64 0, .int .i64 0, .int .i64 0] 24)) := (Below.refl _ _).alloc (Nat.le_refl _) _
    have hbs : Below w3.heap.size w3 ((w3.alloc (.cells #[.int .i64 0, .int .i64 0, .int .i64 0, .int .i64 0, .int .i64 0, .int .i64 0, .int .i64 0, .int .i64 0, .int .i64 0, .int .i64 0, .int .i64 0, .int .i64 0, .int .i64 0, .int .i64 0, .int .i64 0, .int .i64 0, .int .i64 0] 24)).setRow w3.heap.size #[.int .i64 y0, .int .i64 y1, .int .i64 y2, .int .i64 y3, .int .i64 y4, .int .i64 y5, .int .i64 y6, .int .i64 y7, .int .i64 y8, .int .i64 y9, .int .i64 y10, .int .i64 y11, .int .i64 y12, .int .i64 y13, .int .i64 y14, .int .i64 y15, .int .i64 y16]) := hbn.trans (setRow_below (Nat.le_refl _) _)
    have HSB1 : Hid ((Try.prog.info? 24).map (·.size) = some (#[.int .i64 y0, .int .i64 y1, .int .i64 y2, .int .i64 y3, .int .i64 y4, .int .i64 y5, .int .i64 y6, .int .i64 y7, .int .i64 y8, .int .i64 y9, .int .i64 y10, .int .i64 y11, .int .i64 y12, .int .i64 y13, .int .i64 y14, .int .i64 y15, .int .i64 y16] : Array Value).size) := by show _ = _; rw [cmdSize]; rfl
    have HSE1 : Hid ((#[.int .i64 0, .int .i64 0, .int .i64 0, .int .i64 0, .int .i64 0, .int .i64 0, .int .i64 0, .int .i64 0, .int .i64 0, .int .i64 0, .int .i64 0, .int .i64 0, .int .i64 0, .int .i64 0, .int .i64 0, .int .i64 0, .int .i64 0] : Array Value).size = (#[.int .i64 y0, .int .i64 y1, .int .i64 y2, .int .i64 y3, .int .i64 y4, .int .i64 y5, .int .i64 y6, .int .i64 y7, .int .i64 y8, .int .i64 y9, .int .i64 y10, .int .i64 y11, .int .i64 y12, .int .i64 y13, .int .i64 y14, .int .i64 y15, .int .i64 y16] : Array Value).size) := by show _ = _; rfl
    have HON1 : Hid ((#[.int .i64 y0, .int .i64 y1, .int .i64 y2, .int .i64 y3, .int .i64 y4, .int .i64 y5, .int .i64 y6, .int .i64 y7, .int .i64 y8, .int .i64 y9, .int .i64 y10, .int .i64 y11, .int .i64 y12, .int .i64 y13, .int .i64 y14, .int .i64 y15, .int .i64 y16] : Array Value).all (·.oneCell') = true) := by show _ = true; simp [Value.oneCell']
    have HBS := Lib.hid hbs
    clear hbn hbs
    have tw := Twin_any _ (.slice a0 N c0) l (HBN3.out.mono HBS.out) (by have := HN.out; omega)
    unfold RetB at tw
    go_wp2_with (first
      | (refine wpList_store_row rfl 24 (.tmp 10) (.tmp 32) rfl w3.heap.size #[.int .i64 y0, .int .i64 y1, .int .i64 y2, .int .i64 y3, .int .i64 y4, .int .i64 y5, .int .i64 y6, .int .i64 y7, .int .i64 y8, .int .i64 y9, .int .i64 y10, .int .i64 y11, .int .i64 y12, .int .i64 y13, .int .i64 y14, .int .i64 y15, .int .i64 y16] rfl rfl 24 #[.int .i64 0, .int .i64 0, .int .i64 0, .int .i64 0, .int .i64 0, .int .i64 0, .int .i64 0, .int .i64 0, .int .i64 0, .int .i64 0, .int .i64 0, .int .i64 0, .int .i64 0, .int .i64 0, .int .i64 0, .int .i64 0, .int .i64 0] (heap_alloc_new _ _) HSB1.out HSE1.out HON1.out ?_)
      | fail)
    refine tw.mono ?_
    clear tw
    have HB5 : Hid (Below w.heap.size w ((w3.alloc (.cells #[.int .i64 0, .int .i64 0, .int .i64 0, .int .i64 0, .int .i64 0, .int .i64 0, .int .i64 0, .int .i64 0, .int .i64 0, .int .i64 0, .int .i64 0, .int .i64 0, .int .i64 0, .int .i64 0, .int .i64 0, .int .i64 0, .int .i64 0] 24)).setRow w3.heap.size #[.int .i64 y0, .int .i64 y1, .int .i64 y2, .int .i64 y3, .int .i64 y4, .int .i64 y5, .int .i64 y6, .int .i64 y7, .int .i64 y8, .int .i64 y9, .int .i64 y10, .int .i64 y11, .int .i64 y12, .int .i64 y13, .int .i64 y14, .int .i64 y15, .int .i64 y16])) := HB4.out.trans (HBS.out.mono HB4.out.size)
    have HS4 := Lib.hid (HS3.out.below HBS.out)
    generalize hW : (w3.alloc (.cells #[.int .i64 0, .int .i64 0, .int .i64 0, .int .i64 0, .int .i64 0, .int .i64 0, .int .i64 0, .int .i64 0, .int .i64 0, .int .i64 0, .int .i64 0, .int .i64 0, .int .i64 0, .int .i64 0, .int .i64 0, .int .i64 0, .int .i64 0] 24)).setRow w3.heap.size #[.int .i64 y0, .int .i64 y1, .int .i64 y2, .int .i64 y3, .int .i64 y4, .int .i64 y5, .int .i64 y6, .int .i64 y7, .int .i64 y8, .int .i64 y9, .int .i64 y10, .int .i64 y11, .int .i64 y12, .int .i64 y13, .int .i64 y14, .int .i64 y15, .int .i64 y16] = w4 at *
    clear hW HBS
    rintro e w5 ⟨v5, rfl, ho, hb⟩
    have HB6 := Lib.hid (bgo HB5.out hb HB5.out.size)
    have HS5 := Lib.hid (HS4.out.below hb)
    obtain ⟨y5, n5x, c5x, rfl, Hn5, ho⟩ := OwnB.named ho
    have ho1 : OwnB 5 (w5.alloc (.cells #[.int .u8 (c.toNat : Int)] 5)) w4.heap.size (.slice y5 n5x c5x) l := OwnB.alloc ho _
    have hone : Bs (w5.alloc (.cells #[.int .u8 (c.toNat : Int)] 5)) (.slice (some ⟨w5.heap.size, 0, none⟩) 1 1) [c] := Sl.block (n := 1) (cap := 1) (size := 1) (heap_alloc_new _ _) (by simp) (Nat.le_refl _) (by simp [maxLen])
    have HSA5 : Hid (w4.heap.size ≤ w5.heap.size) := hb.size
    have hba : Below w5.heap.size w5 (w5.alloc (.cells #[.int .u8 (c.toNat : Int)] 5)) := (Below.refl _ _).alloc (Nat.le_refl _) _
    have HBA := Lib.hid hba
    have hlA : l.length + [c].length ≤ 140737488355328 := by have := HN.out; simp; omega
    have hbA : w4.heap.size ≤ (w5.alloc (.cells #[.int .u8 (c.toNat : Int)] 5)).heap.size := Nat.le_trans HSA5.out hba.size
    clear hb ho hba
    go_wp2_with (first
      | (at_builtin; refine wpList_append_bytes_at (v := .slice y5 n5x c5x) rfl (.tmp 36) (.tmp 38) 25 rfl (l := l) (m := [c]) (base := w4.heap.size) elem_byte rfl rfl ho1 hone hlA hbA ?_; intro a6x n6x c6x w6 Hn6 ho6 hg6 hat6)
      | fail)
    have hb6 : Below w4.heap.size (w5.alloc (.cells #[.int .u8 (c.toNat : Int)] 5)) w6 := (Kept.of_grown hg6).below (fun k hk e => by have := OwnB.from_le ho1 k e; omega) hbA
    have HB7 : Hid (Below w.heap.size w w6) := (HB6.out.trans (HBA.out.mono HB6.out.size)).trans (hb6.mono HB5.out.size)
    have HS6 : Hid (HT w6 (w.heap.size + 1) 72 [.int .i64 s.now, .int .i64 s.day, .int .i64 s.ph, .slice a1 n1 c1, .slice a2 n2 c2, .slice a3 n3 c3, .int .i64 s.nx, .slice a4 n4 c4, .slice a5 n5 c5, .int .i64 s.la, .slice a6 n6 c6, .slice a7 n7 c7, .slice a8 n8 c8, .slice a9 n9 c9, .slice a10 n10 c10]) := Lib.hid ((HS5.out.below HBA.out).keptH ((Kept.of_grown hg6)) (fun e => by have := OwnB.from_le ho1 _ e; have := HS4.out.lt; omega))
    have rc := ReadCmd_any w6 (.slice a6x n6x c6x) (l ++ [c]) ho6.bs (by have := HN.out; simp; omega)
    unfold RcPost at rc
    obtain ⟨q0, q1, q2, q3, q4, q5, q6, q7, q8, q9, q10, q11, q12, q13, q14, q15, q16, hy⟩ := ivs_lit (readC (l ++ [c])).1 (readC_len _)
    have h6 : (readC (l ++ [c])).2 = 6 := by rw [HL.out]; exact readC_more HXS.out.2.1 HXS.out.2.2.1 (by simp)
    rw [hy, h6] at rc
    simp only [ivs, List.map_cons, List.map_nil] at rc
    clear hy h6 ho1 hone ho6 hg6 hat6 hb6 hlA hbA
    go_wp2_with fail
    refine rc.mono ?_
    clear rc
    rintro e w7 ⟨rfl, hb⟩
    have HB8 := Lib.hid (bgo HB7.out hb HB7.out.size)
    have HS7 := Lib.hid (HS6.out.below hb)
    clear hb
    have hbn : Below w7.heap.size w7 (w7.alloc (.cells #[.int .i64 0, .int .i64 0, .int .i64 0, .int .i64 0, .int .i64 0, .int .i64 0, .int .i64 0, .int .i64 0, .int .i64 0, .int .i64 0, .int .i64 0, .int .i64 0, .int .i64 0, .int .i64 0, .int .i64 0, .int .i64 0, .int .i64 0] 24)) := (Below.refl _ _).alloc (Nat.le_refl _) _
    have hbs : Below w7.heap.size w7 ((w7.alloc (.cells #[.int .i64 0, .int .i64 0, .int .i64 0, .int .i64 0, .int .i64 0, .int .i64 0, .int .i64 0, .int .i64 0, .int .i64 0, .int .i64 0, .int .i64 0, .int .i64 0, .int .i64 0, .int .i64 0, .int .i64 0, .int .i64 0, .int .i64 0] 24)).setRow w7.heap.size #[.int .i64 q0, .int .i64 q1, .int .i64 q2, .int .i64 q3, .int .i64 q4, .int .i64 q5, .int .i64 q6, .int .i64 q7, .int .i64 q8, .int .i64 q9, .int .i64 q10, .int .i64 q11, .int .i64 q12, .int .i64 q13, .int .i64 q14, .int .i64 q15, .int .i64 q16]) := hbn.trans (setRow_below (Nat.le_refl _) _)
    have HSB2 : Hid ((Try.prog.info? 24).map (·.size) = some (#[.int .i64 q0, .int .i64 q1, .int .i64 q2, .int .i64 q3, .int .i64 q4, .int .i64 q5, .int .i64 q6, .int .i64 q7, .int .i64 q8, .int .i64 q9, .int .i64 q10, .int .i64 q11, .int .i64 q12, .int .i64 q13, .int .i64 q14, .int .i64 q15, .int .i64 q16] : Array Value).size) := by show _ = _; rw [cmdSize]; rfl
    have HSE2 : Hid ((#[.int .i64 0, .int .i64 0, .int .i64 0, .int .i64 0, .int .i64 0, .int .i64 0, .int .i64 0, .int .i64 0, .int .i64 0, .int .i64 0, .int .i64 0, .int .i64 0, .int .i64 0, .int .i64 0, .int .i64 0, .int .i64 0, .int .i64 0] : Array Value).size = (#[.int .i64 q0, .int .i64 q1, .int .i64 q2, .int .i64 q3, .int .i64 q4, .int .i64 q5, .int .i64 q6, .int .i64 q7, .int .i64 q8, .int .i64 q9, .int .i64 q10, .int .i64 q11, .int .i64 q12, .int .i64 q13, .int .i64 q14, .int .i64 q15, .int .i64 q16] : Array Value).size) := by show _ = _; rfl
    have HON2 : Hid ((#[.int .i64 q0, .int .i64 q1, .int .i64 q2, .int .i64 q3, .int .i64 q4, .int .i64 q5, .int .i64 q6, .int .i64 q7, .int .i64 q8, .int .i64 q9, .int .i64 q10, .int .i64 q11, .int .i64 q12, .int .i64 q13, .int .i64 q14, .int .i64 q15, .int .i64 q16] : Array Value).all (·.oneCell') = true) := by show _ = true; simp [Value.oneCell']
    have HBS := Lib.hid hbs
    clear hbn hbs
    have HB9 : Hid (Below w.heap.size w ((w7.alloc (.cells #[.int .i64 0, .int .i64 0, .int .i64 0, .int .i64 0, .int .i64 0, .int .i64 0, .int .i64 0, .int .i64 0, .int .i64 0, .int .i64 0, .int .i64 0, .int .i64 0, .int .i64 0, .int .i64 0, .int .i64 0, .int .i64 0, .int .i64 0] 24)).setRow w7.heap.size #[.int .i64 q0, .int .i64 q1, .int .i64 q2, .int .i64 q3, .int .i64 q4, .int .i64 q5, .int .i64 q6, .int .i64 q7, .int .i64 q8, .int .i64 q9, .int .i64 q10, .int .i64 q11, .int .i64 q12, .int .i64 q13, .int .i64 q14, .int .i64 q15, .int .i64 q16])) := HB8.out.trans (HBS.out.mono HB8.out.size)
    have HS8 := Lib.hid (HS7.out.below HBS.out)
    have HGS2 : Hid (((w7.alloc (.cells #[.int .i64 0, .int .i64 0, .int .i64 0, .int .i64 0, .int .i64 0, .int .i64 0, .int .i64 0, .int .i64 0, .int .i64 0, .int .i64 0, .int .i64 0, .int .i64 0, .int .i64 0, .int .i64 0, .int .i64 0, .int .i64 0, .int .i64 0] 24)).setRow w7.heap.size #[.int .i64 q0, .int .i64 q1, .int .i64 q2, .int .i64 q3, .int .i64 q4, .int .i64 q5, .int .i64 q6, .int .i64 q7, .int .i64 q8, .int .i64 q9, .int .i64 q10, .int .i64 q11, .int .i64 q12, .int .i64 q13, .int .i64 q14, .int .i64 q15, .int .i64 q16]).heap[w.heap.size + 1]? = some (.cells #[.int .i64 s.now, .int .i64 s.day, .int .i64 s.ph, .slice a1 n1 c1, .slice a2 n2 c2, .slice a3 n3 c3, .int .i64 s.nx, .slice a4 n4 c4, .slice a5 n5 c5, .int .i64 s.la, .slice a6 n6 c6, .slice a7 n7 c7, .slice a8 n8 c8, .slice a9 n9 c9, .slice a10 n10 c10] 72 (0, 0))) := HS8.out
    have st := State_any ((w7.alloc (.cells #[.int .i64 0, .int .i64 0, .int .i64 0, .int .i64 0, .int .i64 0, .int .i64 0, .int .i64 0, .int .i64 0, .int .i64 0, .int .i64 0, .int .i64 0, .int .i64 0, .int .i64 0, .int .i64 0, .int .i64 0, .int .i64 0, .int .i64 0] 24)).setRow w7.heap.size #[.int .i64 q0, .int .i64 q1, .int .i64 q2, .int .i64 q3, .int .i64 q4, .int .i64 q5, .int .i64 q6, .int .i64 q7, .int .i64 q8, .int .i64 q9, .int .i64 q10, .int .i64 q11, .int .i64 q12, .int .i64 q13, .int .i64 q14, .int .i64 q15, .int .i64 q16]) a1 n1 c1 a2 n2 c2 a3 n3 c3 a4 n4 c4 a5 n5 c5 a6 n6 c6 a7 n7 c7 a8 n8 c8 a9 n9 c9 a10 n10 c10 L s (HST.out _ HB9.out) HOK.out HSZ.out
    obtain ⟨B, hB⟩ : ∃ B, B = s.bytes := ⟨_, rfl⟩
    obtain ⟨bd, hbd⟩ : ∃ B, B = s.bad := ⟨_, rfl⟩
    unfold BytesPost at st
    rw [← hB, ← hbd] at st
    have hbp : 0 < B.length := by
      have := encIs_pos HOK.out.clock
      rw [hB]
      unfold StT.bytes
      rw [List.length_append]
      omega
    obtain ⟨E, hE⟩ : ∃ E, E = bE bd B := ⟨_, rfl⟩
    obtain ⟨BB, hBB⟩ : ∃ E, E = bL bd B := ⟨_, rfl⟩
    rw [← hE, ← hBB] at st
    have hcs := bE_cases bd B
    rw [← hE, ← hBB] at hcs
    have HCS := Lib.hid hcs
    have HBB := Lib.hid (⟨hB, hbd, hbp⟩ : _ ∧ _ ∧ _)
    clear hB hbd hbp hE hBB hcs
    go_wp2_with (first
      | (refine wpList_store_row rfl 24 (.tmp 12) (.tmp 41) rfl w7.heap.size #[.int .i64 q0, .int .i64 q1, .int .i64 q2, .int .i64 q3, .int .i64 q4, .int .i64 q5, .int .i64 q6, .int .i64 q7, .int .i64 q8, .int .i64 q9, .int .i64 q10, .int .i64 q11, .int .i64 q12, .int .i64 q13, .int .i64 q14, .int .i64 q15, .int .i64 q16] rfl rfl 24 #[.int .i64 0, .int .i64 0, .int .i64 0, .int .i64 0, .int .i64 0, .int .i64 0, .int .i64 0, .int .i64 0, .int .i64 0, .int .i64 0, .int .i64 0, .int .i64 0, .int .i64 0, .int .i64 0, .int .i64 0, .int .i64 0, .int .i64 0] (heap_alloc_new _ _) HSB2.out HSE2.out HON2.out ?_)
      | (refine wpList_load_row rfl 72 (.tmp 5) rfl (w.heap.size + 1) rfl 72 #[.int .i64 s.now, .int .i64 s.day, .int .i64 s.ph, .slice a1 n1 c1, .slice a2 n2 c2, .slice a3 n3 c3, .int .i64 s.nx, .slice a4 n4 c4, .slice a5 n5 c5, .int .i64 s.la, .slice a6 n6 c6, .slice a7 n7 c7, .slice a8 n8 c8, .slice a9 n9 c9, .slice a10 n10 c10] (0, 0) _ HGS2.out Try.underlying72 rfl HSZS.out ?_)
      | fail)
    refine st.mono ?_
    clear st
    generalize hW : (w7.alloc (.cells #[.int .i64 0, .int .i64 0, .int .i64 0, .int .i64 0, .int .i64 0, .int .i64 0, .int .i64 0, .int .i64 0, .int .i64 0, .int .i64 0, .int .i64 0, .int .i64 0, .int .i64 0, .int .i64 0, .int .i64 0, .int .i64 0, .int .i64 0] 24)).setRow w7.heap.size #[.int .i64 q0, .int .i64 q1, .int .i64 q2, .int .i64 q3, .int .i64 q4, .int .i64 q5, .int .i64 q6, .int .i64 q7, .int .i64 q8, .int .i64 q9, .int .i64 q10, .int .i64 q11, .int .i64 q12, .int .i64 q13, .int .i64 q14, .int .i64 q15, .int .i64 q16] = w8 at *
    clear hW HBS
    rintro e w9 ⟨a9x, n9x, c9x, rfl, ho, hb⟩
    have HBE := Lib.hid (bgo HB9.out hb HB9.out.size)
    clear hb
    rcases HCS.out with ⟨rfl, rfl, rfl, hB65⟩ | rfl
    · have hmod := HBB.out
      obtain ⟨a0', N', c0', e1, HN', ho⟩ := OwnB.named ho
      cases e1
      have hNp' : 0 < n9x := by have := HN'.out; have := hmod.2.2; omega
      have hNle' : n9x ≤ 65536 := by have := HN'.out; omega
      obtain ⟨r', hr', hrn'⟩ : ∃ r' : Nat, ((u : Int) % (n9x : Int)) = (r' : Int) ∧ r' < n9x := ⟨u % n9x, by simp, Nat.mod_lt _ (by omega)⟩
      have hcap : n9x ≤ c9x ∧ c9x ≤ 9223372036854775807 := by obtain ⟨_, c', e, h2, h3⟩ := ho.bs.shape; injection e with e1 e2 e3; omega
      have hc1' : n9x ≤ c9x := hcap.1
      have hc2' : c9x ≤ 9223372036854775807 := hcap.2
      have hn0' : ((n9x : Int) == 0) = false := by simp; omega
      have rs := ReadState_any w9 (.slice a9x r' c9x) (BB.take r') (ho.bs.pre (by have := HN'.out; omega) hrn') (by rw [List.length_take]; have := HN'.out; omega)
      unfold readStPost at rs
      have h6 : (readSt (BB.take r')).2 = 6 := readSt_cut (x := s) hmod.2.1.symm HOK.out (by rw [← hmod.1]; exact (List.take_append_drop r' BB).symm) (by
        intro e
        have := congrArg List.length e
        rw [List.length_drop] at this
        simp at this
        have := HN'.out
        omega)
      rw [h6] at rs
      have HBN9 : Hid (Bs w9 (.slice a9x n9x c9x) BB) := ho.bs
      have HB65 := Lib.hid hB65
      have HMOD := Lib.hid hmod
      clear h6 ho hcap hmod hB65 hn0 hr hrn hc1 hc2 hNp hNle
      go_wp2_with fail
      refine rs.mono ?_
      clear rs
      rintro e wa ⟨val, rfl, _, hb⟩
      have HBF := Lib.hid (bgo HBE.out hb HBE.out.size)
      have tw := Twin_any wa (.slice a9x n9x c9x) BB (HBN9.out.mono hb) (by have := HB65.out; omega)
      unfold RetB at tw
      clear hb hr' hrn'
      go_wp2_with fail
      refine tw.mono ?_
      clear tw
      rintro e wb ⟨v5, rfl, ho, hb⟩
      have HBG := Lib.hid (bgo HBF.out hb HBF.out.size)
      obtain ⟨a5', n5', c5', rfl, Hn5', ho⟩ := OwnB.named ho
      have ho1 : OwnB 5 (wb.alloc (.cells #[.int .u8 (c.toNat : Int)] 5)) wa.heap.size (.slice a5' n5' c5') BB := OwnB.alloc ho _
      have hone : Bs (wb.alloc (.cells #[.int .u8 (c.toNat : Int)] 5)) (.slice (some ⟨wb.heap.size, 0, none⟩) 1 1) [c] := Sl.block (n := 1) (cap := 1) (size := 1) (heap_alloc_new _ _) (by simp) (Nat.le_refl _) (by simp [maxLen])
      have HSA5 : Hid (wa.heap.size ≤ wb.heap.size) := hb.size
      have hba : Below wb.heap.size wb (wb.alloc (.cells #[.int .u8 (c.toNat : Int)] 5)) := (Below.refl _ _).alloc (Nat.le_refl _) _
      have HBA := Lib.hid hba
      have hlA : BB.length + [c].length ≤ 140737488355328 := by have := HB65.out; simp; omega
      have hbA : wa.heap.size ≤ (wb.alloc (.cells #[.int .u8 (c.toNat : Int)] 5)).heap.size := Nat.le_trans HSA5.out hba.size
      clear hb ho hba
      go_wp2_with (first
        | (at_builtin; refine wpList_append_bytes_at (v := .slice a5' n5' c5') rfl (.tmp 72) (.tmp 74) 25 rfl (l := BB) (m := [c]) (base := wa.heap.size) elem_byte rfl rfl ho1 hone hlA hbA ?_; intro a6' n6' c6' w6' Hn6' ho6' hg6' hat6')
        | fail)
      have hb6 : Below wa.heap.size (wb.alloc (.cells #[.int .u8 (c.toNat : Int)] 5)) w6' := (Kept.of_grown hg6').below (fun k hk e => by have := OwnB.from_le ho1 k e; omega) hbA
      have HBH : Hid (Below w.heap.size w w6') := (HBG.out.trans (HBA.out.mono HBG.out.size)).trans (hb6.mono HBF.out.size)
      have rs := ReadState_any w6' (.slice a6' n6' c6') (BB ++ [c]) ho6'.bs (by have := HB65.out; simp; omega)
      unfold readStPost at rs
      have h6 : (readSt (BB ++ [c])).2 = 6 := by rw [HMOD.out.1]; exact readSt_more HMOD.out.2.1.symm HOK.out (by simp)
      rw [h6] at rs
      clear h6 ho1 hone ho6' hg6' hat6' hb6 hlA hbA
      go_wp2_with fail
      refine rs.mono ?_
      clear rs
      rintro e wd ⟨val2, rfl, _, hb⟩
      have HBI := Lib.hid (bgo HBH.out hb HBH.out.size)
      have wk := wakes_any wd
      clear hb
      go_wp2_with fail
      refine wk.mono ?_
      clear wk
      rintro e wz ⟨rfl, hb⟩
      go_wp2_with fail
      go_ret
      exact ⟨rfl, bgo HBI.out hb HBI.out.size⟩
    · have wk := wakes_any w9
      clear ho hr hrn hn0
      go_wp2_with fail
      refine wk.mono ?_
      clear wk
      rintro e wz ⟨rfl, hb⟩
      go_wp2_with fail
      go_ret
      exact ⟨rfl, bgo HBE.out hb HBE.out.size⟩
end Cam
