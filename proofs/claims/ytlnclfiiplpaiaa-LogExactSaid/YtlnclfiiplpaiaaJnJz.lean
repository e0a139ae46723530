import Derived.Test.YtlnclfiiplpaiaaJnI
import Derived.Test.YtlnclfiiplpaiaaJnQ
/- Several small texts in one: JnK, JnJ. No condition. -/
namespace Cam
open Go Go.RowKit Go.Proofs
set_option maxRecDepth 100000 in
set_option maxHeartbeats 1600000 in
theorem Rows_any (w : World) (va vb : Value) (la lb : List (List UInt8)) (ha : Bss w va la) (hb : Bss w vb lb) (hn : la.length ≤ 1000000) :
  Calls Try.prog 18 #[va, vb] w fun e w' => e = .returned (.bool (decide (la = lb))) ∧ Below w.heap.size w w' := by
 obtain ⟨aa, ca, rfl, hca, hma⟩ := ha.len
 obtain ⟨ab, cb, rfl, hcb, hmb⟩ := hb.len
 by_cases hl : la.length = lb.length
 ·
  obtain ⟨N, hN⟩ : ∃ z, z = la.length := ⟨_, rfl⟩
  rw [← hl] at hb hcb ⊢
  rw [← hN] at ha hb hca hcb hn ⊢
  have HL := Lib.hid (hN.trans hl)
  have HN := Lib.hid hN
  have HA := Lib.hid ha
  have HBB := Lib.hid hb
  have hnn : ((N : Int) != (N : Int)) = false := by simp
  clear hN hl ha hb
  go_enter Try.func18, Try.ntmps18
  go_wp2_with fail
  go_loopw [5] (fun i wr => ∃ k : Nat, k ≤ N ∧ i = .int .i64 k ∧ Hid (la.take k = lb.take k) ∧ Below w.heap.size w wr) (fun i _ => N - (intOf i).toNat)
  case atStart => exact ⟨0, Nat.zero_le _, rfl, rfl, Below.refl _ _⟩
  case round =>
   obtain ⟨k, hk, rfl, HTK, hbel⟩ := hrel
   have HB := Lib.hid hbel
   clear hbel
   by_cases hlt : k < N
   ·
    have hka : k < la.length := by have := HN.out; omega
    have hkb : k < lb.length := by have := HL.out; omega
    obtain ⟨ba, oa, rfl, hxa⟩ := Bss.at1 (HA.out.mono HB.out) (by omega)
    obtain ⟨⟨s1, s2, s3⟩, hsa, hbx⟩ := hxa k hka
    obtain ⟨bb, ob, rfl, hxb⟩ := Bss.at1 (HBB.out.mono HB.out) (by omega)
    obtain ⟨⟨t1, t2, t3⟩, hsb, hby⟩ := hxb k hkb
    obtain ⟨x, hx⟩ : ∃ z, z = la[k] := ⟨_, rfl⟩
    obtain ⟨y, hy⟩ : ∃ z, z = lb[k] := ⟨_, rfl⟩
    rw [← hx] at hbx
    rw [← hy] at hby
    have HBX : Hid (Bs wr (.slice s1 s2 s3) x) := hbx
    have HBY : Hid (Bs wr (.slice t1 t2 t3) y) := hby
    have HCA : Hid (wr.cell? ⟨ba, oa + k, none⟩ = some (.slice s1 s2 s3)) := hsa
    have HCB : Hid (wr.cell? ⟨bb, ob + k, none⟩ = some (.slice t1 t2 t3)) := hsb
    obtain ⟨d, hd⟩ : ∃ z, z = decide (x = y) := ⟨_, rfl⟩
    have HEQ := Lib.hid hd.symm
    have HX := Lib.hid hx
    have HY := Lib.hid hy
    have hk0 : (0 : Int) ≤ k ∧ (k : Int) < N := by omega
    clear hxa hsa hbx hxb hsb hby hx hy hd
    go_upto_region 6 with fail
    refine wp_region_bl 10 (by kernel_rfl) ?_
    refine wpAnyU_take (i := 0) (oi := { dst := some 17, op := Op.move (Operand.tmp 0), type := 23, pos := "keep.go:24", after := #[], guard := none }) (v := (.slice (some ⟨ba, oa, none⟩) N ca)) rfl (by kernel_rfl) (by kernel_rfl) (by kernel_rfl) (by kernel_rfl) (by kernel_rfl) (fun _ _ _ h => h) (BL.cls wr) ?_ ?_
    ·
     refine Or.inl ⟨rfl, fun w hSw => ?_⟩
     exact EffR.same (by go_simp)
    try simp only [Act.put, zA, zB, zC]
    refine wpAnyU_take (i := 1) (oi := { dst := some 18, op := Op.move (Operand.tmp 5), type := 3, pos := "keep.go:24", after := #[], guard := none }) (v := (.int .i64 (k : Int))) rfl (by kernel_rfl) (by kernel_rfl) (by kernel_rfl) (by kernel_rfl) (by kernel_rfl) (fun _ _ _ h => h) (BL.cls wr) ?_ ?_
    ·
     refine Or.inl ⟨rfl, fun w hSw => ?_⟩
     exact EffR.same (by go_simp)
    try simp only [Act.put, zA, zB, zC]
    refine wpAnyU_take (i := 2) (oi := { dst := some 19, op := Op.indexAddr 23 (Operand.tmp 17) (Operand.tmp 18), type := 0, pos := "keep.go:24", after := #[{ on := 0, ground := Ground.data }, { on := 1, ground := Ground.data }], guard := none }) (v := (.pointer (some ⟨ba, oa + k, none⟩))) rfl (by kernel_rfl) (by kernel_rfl) (by kernel_rfl) (by kernel_rfl) (by kernel_rfl) (fun _ _ _ h => h) (BL.cls wr) ?_ ?_
    ·
     refine Or.inl ⟨rfl, fun w hSw => ?_⟩
     exact EffR.same (by go_simp)
    try simp only [Act.put, zA, zB, zC]
    refine wpAnyU_take (i := 3) (oi := { dst := some 20, op := Op.load 22 (Operand.tmp 19), type := 22, pos := "keep.go:24", after := #[{ on := 2, ground := Ground.data }], guard := none }) (v := (.slice s1 s2 s3)) rfl (by kernel_rfl) (by kernel_rfl) (by kernel_rfl) (by kernel_rfl) (by kernel_rfl) (fun _ _ _ h => h) (BL.cls wr) ?_ ?_
    ·
     refine Or.inl ⟨rfl, fun w hSw => ?_⟩
     have e0 := BL.cell hSw HCA.out
     exact EffR.same (by go_simp)
    try simp only [Act.put, zA, zB, zC]
    refine wpAnyU_take (i := 4) (oi := { dst := some 21, op := Op.move (Operand.tmp 1), type := 23, pos := "keep.go:24", after := #[], guard := none }) (v := (.slice (some ⟨bb, ob, none⟩) N cb)) rfl (by kernel_rfl) (by kernel_rfl) (by kernel_rfl) (by kernel_rfl) (by kernel_rfl) (fun _ _ _ h => h) (BL.cls wr) ?_ ?_
    ·
     refine Or.inl ⟨rfl, fun w hSw => ?_⟩
     exact EffR.same (by go_simp)
    try simp only [Act.put, zA, zB, zC]
    refine wpAnyU_take (i := 5) (oi := { dst := some 22, op := Op.move (Operand.tmp 5), type := 3, pos := "keep.go:24", after := #[], guard := none }) (v := (.int .i64 (k : Int))) rfl (by kernel_rfl) (by kernel_rfl) (by kernel_rfl) (by kernel_rfl) (by kernel_rfl) (fun _ _ _ h => h) (BL.cls wr) ?_ ?_
    ·
     refine Or.inl ⟨rfl, fun w hSw => ?_⟩
     exact EffR.same (by go_simp)
    try simp only [Act.put, zA, zB, zC]
    refine wpAnyU_take (i := 6) (oi := { dst := some 23, op := Op.indexAddr 23 (Operand.tmp 21) (Operand.tmp 22), type := 0, pos := "keep.go:24", after := #[{ on := 4, ground := Ground.data }, { on := 5, ground := Ground.data }], guard := none }) (v := (.pointer (some ⟨bb, ob + k, none⟩))) rfl (by kernel_rfl) (by kernel_rfl) (by kernel_rfl) (by kernel_rfl) (by kernel_rfl) (fun _ _ _ h => h) (BL.cls wr) ?_ ?_
    ·
     refine Or.inl ⟨rfl, fun w hSw => ?_⟩
     exact EffR.same (by go_simp)
    try simp only [Act.put, zA, zB, zC]
    refine wpAnyU_take (i := 7) (oi := { dst := some 24, op := Op.load 22 (Operand.tmp 23), type := 22, pos := "keep.go:24", after := #[{ on := 6, ground := Ground.data }], guard := none }) (v := (.slice t1 t2 t3)) rfl (by kernel_rfl) (by kernel_rfl) (by kernel_rfl) (by kernel_rfl) (by kernel_rfl) (fun _ _ _ h => h) (BL.cls wr) ?_ ?_
    ·
     refine Or.inl ⟨rfl, fun w hSw => ?_⟩
     have e0 := BL.cell hSw HCB.out
     exact EffR.same (by go_simp)
    try simp only [Act.put, zA, zB, zC]
    refine wpAnyU_ready (rs := [8]) (by kernel_rfl) (by simp) ?_
    refine AllReadyU.cons (o := { dst := some 25, op := Op.call { callee := Callee.value (Operand.func 23), args := #[Operand.tmp 20, Operand.tmp 24], argTypes := #[22, 22] }, type := 4, pos := "keep.go:24", after := #[{ on := 3, ground := Ground.data }, { on := 7, ground := Ground.data }], guard := none }) rfl (fun wA8 hA8 K hK => ?_) AllReadyU.nil
    have hb9 := Bytes_any wA8 (.slice s1 s2 s3) (.slice t1 t2 t3) x y (Bs.mono HBX.out hA8) (Bs.mono HBY.out hA8)
    rw [HEQ.out] at hb9
    go_simp
    refine hb9.mono ?_
    rintro e0 w5 ⟨rfl, hb5⟩
    refine hK.out _ _ (BL wr) (BL.cls wr) (Below.next hA8 hb5) ?_
    clear hb9 hb5
    clear hK K
    try simp only [Act.put, zA, zB, zC]
    refine wpAnyU_take (i := 9) (oi := { dst := some 26, op := Op.unOp UnOp.not 4 (Operand.tmp 25), type := 4, pos := "keep.go:24", after := #[{ on := 8, ground := Ground.data }], guard := none }) (v := (.bool (!d))) rfl (by kernel_rfl) (by kernel_rfl) (by kernel_rfl) (by kernel_rfl) (by kernel_rfl) (fun _ _ _ h => h) (BL.cls wr) ?_ ?_
    ·
     refine Or.inl ⟨rfl, fun w hSw => ?_⟩
     exact EffR.same (by go_simp)
    try simp only [Act.put, zA, zB, zC]
    refine wpAnyU_done (by kernel_rfl) (fun w1 hb1 => ?_) _
    have HB1 := Lib.hid hb1
    clear hb1
    cases d with
    | true =>
     go_wp2_with fail
     refine ⟨⟨k + 1, by omega, by push_cast; rfl, ?_, Below.next' HB.out HB1.out (Nat.le_refl _)⟩, by simp [intOf]; omega⟩
     have hxy : x = y := by simpa using HEQ.out
     show _ = _
     rw [take_snoc la k hka, take_snoc lb k hkb, HTK.out, ← HX.out, ← HY.out, hxy]
    | false =>
     go_wp2_with fail
     go_ret
     have hne : la ≠ lb := fun e => by
      have hxy : x ≠ y := by simpa using HEQ.out
      refine hxy ?_
      rw [HX.out, HY.out]
      simp only [e]
     exact ⟨by rw [decide_eq_false hne]; rfl, Below.next' HB.out HB1.out (Nat.le_refl _)⟩
   ·
    obtain rfl : k = N := by omega
    have hall : la = lb := by
     have h9 := HTK.out
     rwa [List.take_of_length_le (by have := HN.out; omega), List.take_of_length_le (by have := HL.out; omega)] at h9
    have HALL := Lib.hid hall
    clear hall
    go_wp2_with fail
    go_ret
    exact ⟨by rw [decide_eq_true HALL.out]; rfl, HB.out⟩
 ·
  have hl' : ((la.length : Int) != (lb.length : Int)) = true := by rw [bne_iff_ne]; omega
  have hne : la ≠ lb := fun e => hl (by rw [e])
  have HNE := Lib.hid hne
  clear hne ha hb
  go_enter Try.func18, Try.ntmps18
  go_wp2_with fail
  go_ret
  exact ⟨by rw [decide_eq_false HNE.out]; rfl, Below.refl _ _⟩
end Cam
namespace Cam
open Go Go.RowKit Go.Proofs
def DJ (B : Nat) (w : World) (g n : Nat) (D : DK) : Prop := ∃ F, DX w g F n D ∧ ∀ k, F k → B ≤ k
def JM (B : Nat) (w : World) (g gl n : Nat) (D : DK) (T : LT) : Prop := ∃ Fd Fl, DX w g Fd n D ∧ LX w gl Fl g T ∧ (∀ k, Fd k → ¬ Fl k) ∧ ∀ k, Fd k ∨ Fl k → B ≤ k
theorem DJ.ok {B : Nat} {w : World} {g n : Nat} {D : DK} (h : DJ B w g n D) : DOk n D := by
 obtain ⟨F, h1, h2⟩ := h
 exact h1.ok
theorem DJ.below {B : Nat} {w w' : World} {g n : Nat} {D : DK} (h : DJ B w g n D) (hb : Below w.heap.size w w') : DJ B w' g n D := by
 obtain ⟨F, h1, h2⟩ := h
 exact ⟨F, h1.below hb, h2⟩
theorem JM.below {B : Nat} {w w' : World} {g gl n : Nat} {D : DK} {T : LT} (h : JM B w g gl n D T) (hb : Below w.heap.size w w') : JM B w' g gl n D T := by
 obtain ⟨Fd, Fl, h1, h2, h3, h4⟩ := h
 exact ⟨Fd, Fl, h1.below hb, h2.below hb, h3, h4⟩
theorem JM.disk {B : Nat} {w : World} {g gl n : Nat} {D : DK} {T : LT} (h : JM B w g gl n D T) : DJ B w g n D := by
 obtain ⟨Fd, Fl, h1, h2, h3, h4⟩ := h
 exact ⟨Fd, h1, fun k e => h4 k (.inl e)⟩
theorem keptB {B : Nat} {F : Nat → Prop} {w w' : World} (hk : Kept F w w') (hF : ∀ k, F k → B ≤ k) (hB : B ≤ w.heap.size) : Below B w w' := hk.below (fun k hk e => by have := hF k e; omega) hB
theorem JPost.jm {B : Nat} {w w' : World} {g gl n : Nat} {Fd Fl : Nat → Prop} {D : DK} {T : LT} (h : JPost w g gl Fd Fl n D T w') (hF : ∀ k, Fd k ∨ Fl k → B ≤ k) (hB : B ≤ w.heap.size) : JM B w' g gl n D T ∧ Below B w w' := by
 obtain ⟨Fd', Fl', h1, h2, h3, h4, h5⟩ := h
 refine ⟨⟨Fd', Fl', h1, h2, h3, fun k e => ?_⟩, keptB h4 hF hB⟩
 rcases h5 k e with e | e | e
 ·
  exact hF k (.inl e)
 ·
  exact hF k (.inr e)
 ·
  omega
def JS (B : Nat) (w0 : World) (k : Nat) : Prop := B ≤ k ∧ k < w0.heap.size
theorem New_j (w : World) (n : Nat) (h1 : 1 ≤ n) (h2 : n ≤ 65536) : Calls Try.prog 12 #[.int .i64 (n : Int)] w fun e w' => ∃ g, e = .returned (.tuple #[.pointer (some ⟨g, 0, none⟩), .int .i64 0]) ∧ DJ w.heap.size w' g n (DK.new n) ∧ Below w.heap.size w w' :=
 (New_x w n h1 h2).mono fun _ _ ⟨g, F, he, hd, hF, hb⟩ => ⟨g, he, ⟨F, hd, hF⟩, hb⟩
theorem Open_j {B : Nat} (w : World) (g n : Nat) (D : DK) (h : DJ B w g n D) (hoff : D.off = false) (hn : 4 ≤ n) (hB : B ≤ w.heap.size) :
  Calls Try.prog 13 #[.pointer (some ⟨g, 0, none⟩)] w fun e w' => ∃ gl, e = .returned (.tuple #[.pointer (some ⟨gl, 0, none⟩), .int .i64 0]) ∧ JM B w' g gl n D (openT n D.now) ∧ w.heap.size ≤ gl ∧ Below w.heap.size w w' := by
 obtain ⟨F, hd, hF⟩ := h
 refine (Open_ok w g n F D hd hoff hn).mono ?_
 rintro e w' ⟨gl, Fl, rfl, hl, hFl, hb⟩
 refine ⟨gl, rfl, ⟨F, Fl, hd.below hb, hl, fun k e1 e2 => ?_, fun k e => ?_⟩, hFl gl hl.mine, hb⟩
 ·
  have := hd.lt k e1
  have := hFl k e2
  omega
 ·
  rcases e with e | e
  ·
   exact hF k e
  ·
   have := hFl k e; omega
theorem Begin_j {B : Nat} (w0 w : World) (g gl n : Nat) (D : DK) (T : LT) (h : JM B w0 g gl n D T) (hw : Below w0.heap.size w0 w) (hB : B ≤ w0.heap.size) (v : Value) (s : List UInt8) (hsn : ∀ w', Kept (JS B w0) w w' → Bs w' v s)
  (hfr : T.from_ = 0 ∨ T.from_ = n / 2) (hgen : T.half.gen < 1099511627776) (hs : s.length ≤ 65536) (hfit : (rowsOf (T.half.gen + 1) 0 s).length ≤ n / 2) (hop : D.op.length ≤ 500000) :
  Calls Try.prog 14 #[.pointer (some ⟨gl, 0, none⟩), v] w fun e w' => e = .returned (.int .i64 (dPhases D (n / 2 - T.from_) [List.replicate (n / 2) zero64, rowsOf (T.half.gen + 1) 0 s]).1) ∧
   JM B w' g gl n (dPhases D (n / 2 - T.from_) [List.replicate (n / 2) zero64, rowsOf (T.half.gen + 1) 0 s]).2 (if (dPhases D (n / 2 - T.from_) [List.replicate (n / 2) zero64, rowsOf (T.half.gen + 1) 0 s]).1 = 0 then ⟨n / 2 - T.from_, ⟨T.half.gen + 1, s, [], (rowsOf (T.half.gen + 1) 0 s).length⟩, true⟩ else T) ∧ Below B w w' := by
 obtain ⟨Fd, Fl, h1, h2, h3, h4⟩ := h
 refine (Begin_go w gl g n Fd Fl D T (h1.below hw) (h2.below hw) h3 v s (fun w' hk => hsn w' (hk.weaken (fun k e => ⟨h4 k (.inl e), h1.lt k e⟩))) hfr hgen hs hfit hop).mono ?_
 rintro e w' ⟨he, hj⟩
 exact ⟨he, hj.jm h4 (Nat.le_trans hB hw.size)⟩
theorem Append_j {B : Nat} (w0 w : World) (g gl n : Nat) (D : DK) (T : LT) (h : JM B w0 g gl n D T) (hw : Below w0.heap.size w0 w) (hB : B ≤ w0.heap.size) (v : Value) (rs : List (List UInt8)) (hrs : ∀ w', Kept (JS B w0) w w' → Bss w' v rs)
  (hbg : T.begun = true) (hoff : D.off = false) (hfr : T.from_ ≤ n / 2) (hfi : T.half.fin ≤ n / 2) (hgen : T.half.gen ≤ 1099511627776) (hnr : T.half.recs.length ≤ 1000000) (hle : ∀ r ∈ rs, r.length ≤ 65536) (hns : rs.length ≤ 1000) (hop : D.op.length ≤ 500000) :
  Calls Try.prog 15 #[.pointer (some ⟨gl, 0, none⟩), v] w fun e w' => e = .returned (.int .i64 (appR n D T rs).1) ∧ JM B w' g gl n (appR n D T rs).2.1 (appR n D T rs).2.2 ∧ Below B w w' := by
 obtain ⟨Fd, Fl, h1, h2, h3, h4⟩ := h
 refine (Append_go w gl g n Fd Fl D T (h1.below hw) (h2.below hw) h3 v rs (fun w' hk => hrs w' (hk.weaken (fun k e => ⟨h4 k e, by rcases e with e | e; exact h1.lt k e; exact h2.lt k e⟩))) hbg hoff hfr hfi hgen hnr hle hns hop).mono ?_
 rintro e w' ⟨he, hj⟩
 exact ⟨he, hj.jm h4 (Nat.le_trans hB hw.size)⟩
theorem LSync_any (w : World) (g gl n : Nat) (Fd Fl : Nat → Prop) (D : DK) (T : LT) (hd : DX w g Fd n D) (hl : LX w gl Fl g T) (hdis : ∀ k, Fd k → ¬ Fl k) :
  Calls Try.prog 16 #[.pointer (some ⟨gl, 0, none⟩)] w fun e w' => e = .returned (.int .i64 (dSync D).1) ∧ JPost w g gl Fd Fl n (dSync D).2 T w' := by
 have HL := Lib.hid hl
 have HD := Lib.hid hd
 have HDIS := Lib.hid hdis
 obtain ⟨vsn, vrc, h1, h2, h3, h4⟩ := hl
 have hc := h1.cell (j := 0) rfl
 have hs := Sync_x w g n Fd D hd
 clear h1 h2 h3 h4 hd hdis
 go_enter Try.func16, Try.ntmps16
 go_wp2_with fail
 refine hs.mono ?_
 clear hs
 rintro e w' ⟨rfl, F', hd', hk', hf'⟩
 have HD' := Lib.hid hd'
 have HK' := Lib.hid hk'
 have HF' := Lib.hid hf'
 clear hd' hk' hf'
 go_wp2_with fail
 go_ret
 exact ⟨rfl, JPost.quit HL.out HD'.out (Below.refl _ _) HK'.out HF'.out HDIS.out⟩
theorem Sync_j {B : Nat} (w : World) (g gl n : Nat) (D : DK) (T : LT) (h : JM B w g gl n D T) (hB : B ≤ w.heap.size) :
  Calls Try.prog 16 #[.pointer (some ⟨gl, 0, none⟩)] w fun e w' => e = .returned (.int .i64 (dSync D).1) ∧ JM B w' g gl n (dSync D).2 T ∧ Below B w w' := by
 obtain ⟨Fd, Fl, h1, h2, h3, h4⟩ := h
 exact (LSync_any w g gl n Fd Fl D T h1 h2 h3).mono fun _ _ ⟨he, hj⟩ => ⟨he, hj.jm h4 hB⟩
theorem Gen_j {B : Nat} (w : World) (g gl n : Nat) (D : DK) (T : LT) (h : JM B w g gl n D T) :
  Calls Try.prog 21 #[.pointer (some ⟨gl, 0, none⟩)] w fun e w' => e = .returned (.int .i64 (T.half.gen : Int)) ∧ w = w' := by
 obtain ⟨Fd, Fl, h1, h2, h3, h4⟩ := h
 exact Gen_any w gl g Fl T h2
theorem recsM.bss {w : World} {F : Nat → Prop} {v : Value} {R : List (List UInt8)} (h : recsM w F v R) : Bss w v R := by
 obtain ⟨vs, h1, h2, h3, h4⟩ := h
 have hs := h2.rs.2
 rw [h1] at hs
 have e : flatW encS vs = vs.map SV.v := by
  clear h1 h2 h4 hs
  induction vs with
  | nil => rfl
  | cons a l ih => simp only [flatW, List.map_cons, List.flatten_cons] at ih ⊢; rw [ih]; rfl
 rw [e] at hs
 refine ⟨vs.map SV.v, by simp [h1], hs, fun i a b => ?_⟩
 have := (h4 i (by simpa using b) a).1.bs
 simpa using this
theorem Recs_j {B : Nat} (w : World) (g gl n : Nat) (D : DK) (T : LT) (h : JM B w g gl n D T) (hl : ∀ r ∈ T.half.recs, r.length ≤ 1000000) (hn : T.half.recs.length ≤ 1000000) :
  Calls Try.prog 19 #[.pointer (some ⟨gl, 0, none⟩)] w (RecsPost w T.half.recs) := by
 obtain ⟨Fd, Fl, h1, h2, h3, h4⟩ := h
 exact Recs_any w gl g Fl T h2 hl hn
end Cam
