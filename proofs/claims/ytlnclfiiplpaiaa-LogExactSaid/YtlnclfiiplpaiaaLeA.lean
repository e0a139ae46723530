import Derived.Test.YtlnclfiiplpaiaaPgC
/- LogExact: the program's log and the page's side by side. -/
namespace Cam
open Go Go.RowKit Go.Proofs
def PJ (F : Nat → Prop) (w : World) (q rl n : Nat) (D : DK) (T : LT) : Prop := ∃ Pd Pl hf, PX w q Pd n D ∧ PLX w rl hf Pl q T ∧ hf ≤ 1 ∧ T.from_ = hf * (n / 2) ∧ (∀ k, Pd k → ¬ Pl k) ∧ ∀ k, F k ↔ Pd k ∨ Pl k
theorem PJ.lt {F : Nat → Prop} {w : World} {q rl n : Nat} {D : DK} {T : LT} (h : PJ F w q rl n D T) (k : Nat) (hk : F k) : k < w.heap.size := by
 obtain ⟨Fd, Fl, hf, h1, h2, h3, h4, h5, h6⟩ := h
 rcases (h6 k).1 hk with e | e
 ·
  exact h1.lt k e
 ·
  exact h2.lt k e
theorem PJ.kept {F S : Nat → Prop} {w w' : World} {q rl n : Nat} {D : DK} {T : LT} (h : PJ F w q rl n D T) (hk : Kept S w w') (hS : ∀ k, F k → ¬ S k) : PJ F w' q rl n D T := by
 obtain ⟨Fd, Fl, hf, h1, h2, h3, h4, h5, h6⟩ := h
 exact ⟨Fd, Fl, hf, h1.kept hk (fun k e => hS k ((h6 k).2 (.inl e))), h2.kept hk (fun k e => hS k ((h6 k).2 (.inr e))), h3, h4, h5, h6⟩
theorem PJ.below {F : Nat → Prop} {w w' : World} {q rl n : Nat} {D : DK} {T : LT} (h : PJ F w q rl n D T) (hb : Below w.heap.size w w') : PJ F w' q rl n D T := h.kept (Kept.of_below hb) (fun _ _ e => e)
def PJP (F : Nat → Prop) (w : World) (q rl n : Nat) (D : DK) (T : LT) (w' : World) : Prop := ∃ F', PJ F' w' q rl n D T ∧ Kept F w w' ∧ ∀ k, F' k → F k ∨ w.heap.size ≤ k
theorem PJPost.pj {F Fd Fl : Nat → Prop} {w w' : World} {q rl n hf : Nat} {D : DK} {T : LT} (h : PJPost w q rl Fd Fl n D hf T w') (h1 : hf ≤ 1) (h2 : T.from_ = hf * (n / 2)) (hF : ∀ k, F k ↔ Fd k ∨ Fl k) : PJP F w q rl n D T w' := by
 obtain ⟨Fd', Fl', k1, k2, k3, k4, k5⟩ := h
 refine ⟨fun k => Fd' k ∨ Fl' k, ⟨Fd', Fl', hf, k1, k2, h1, h2, k3, fun _ => Iff.rfl⟩, k4.weaken (fun k e => (hF k).2 e), fun k e => ?_⟩
 rcases k5 k e with e | e | e
 ·
  exact .inl ((hF k).2 (.inl e))
 ·
  exact .inl ((hF k).2 (.inr e))
 ·
  exact .inr e
def L5 (F : Nat → Prop) (w : World) (g gl q rl n : Nat) (D1 : DK) (T1 : LT) (D2 : DK) (T2 : LT) : Prop := ∃ Fa Fb, JF Fa w g gl n D1 T1 ∧ PJ Fb w q rl n D2 T2 ∧ (∀ k, Fa k → ¬ Fb k) ∧ ∀ k, F k ↔ Fa k ∨ Fb k
theorem L5.lt {F : Nat → Prop} {w : World} {g gl q rl n : Nat} {D1 D2 : DK} {T1 T2 : LT} (h : L5 F w g gl q rl n D1 T1 D2 T2) (k : Nat) (hk : F k) : k < w.heap.size := by
 obtain ⟨Fa, Fb, h1, h2, h3, h4⟩ := h
 rcases (h4 k).1 hk with e | e
 ·
  exact h1.lt k e
 ·
  exact h2.lt k e
theorem L5.kept {F S : Nat → Prop} {w w' : World} {g gl q rl n : Nat} {D1 D2 : DK} {T1 T2 : LT} (h : L5 F w g gl q rl n D1 T1 D2 T2) (hk : Kept S w w') (hS : ∀ k, F k → ¬ S k) : L5 F w' g gl q rl n D1 T1 D2 T2 := by
 obtain ⟨Fa, Fb, h1, h2, h3, h4⟩ := h
 exact ⟨Fa, Fb, h1.kept hk (fun k e => hS k ((h4 k).2 (.inl e))), h2.kept hk (fun k e => hS k ((h4 k).2 (.inr e))), h3, h4⟩
theorem L5.below {F : Nat → Prop} {w w' : World} {g gl q rl n : Nat} {D1 D2 : DK} {T1 T2 : LT} (h : L5 F w g gl q rl n D1 T1 D2 T2) (hb : Below w.heap.size w w') : L5 F w' g gl q rl n D1 T1 D2 T2 := h.kept (Kept.of_below hb) (fun _ _ e => e)
def KC (F0 : Nat → Prop) (w0 : World) (F : Nat → Prop) (w : World) : Prop := Kept F0 w0 w ∧ ∀ k, F k → F0 k ∨ w0.heap.size ≤ k
theorem KC.refl (F : Nat → Prop) (w : World) : KC F w F w := ⟨Kept.refl _ _, fun _ e => .inl e⟩
theorem KC.next {F0 F F' : Nat → Prop} {w0 w w' : World} (h : KC F0 w0 F w) (k : KC F w F' w') : KC F0 w0 F' w' :=
 ⟨h.1.trans k.1 (fun i hi e => (h.2 i e).resolve_right (by omega)), fun i e => (k.2 i e).elim (h.2 i) (fun e => by have := h.1.size; exact .inr (by omega))⟩
theorem KC.below {F0 F : Nat → Prop} {w0 w w' : World} (h : KC F0 w0 F w) (hb : Below w.heap.size w w') : KC F0 w0 F w' := ⟨h.1.next hb, h.2⟩
theorem KC.stay {F0 F : Nat → Prop} {w0 w : World} {P : World → Prop} (h : KC F0 w0 F w) (hs : Stay F0 w0 P) : Stay F w P := hs.next h.1 h.2
theorem KC.here {F0 F : Nat → Prop} {w0 w : World} {P : World → Prop} (h : KC F0 w0 F w) (hs : Stay F0 w0 P) : P w := (h.stay hs).here
theorem KC.cls {F0 F : Nat → Prop} {w0 w : World} {P : World → Prop} (h : KC F0 w0 F w) (hs : Stay F0 w0 P) : Cls P (BL w) := ⟨fun _ hx => (h.below hx).here hs, fun _ _ h hb => Below.next h hb⟩
def L5P (F : Nat → Prop) (w : World) (g gl q rl n : Nat) (D1 : DK) (T1 : LT) (D2 : DK) (T2 : LT) (w' : World) : Prop := ∃ F', L5 F' w' g gl q rl n D1 T1 D2 T2 ∧ KC F w F' w'
theorem L5.stepJ {F : Nat → Prop} {w : World} {g gl q rl n : Nat} {D1 D2 : DK} {T1 T2 : LT} (h : L5 F w g gl q rl n D1 T1 D2 T2) :
  ∃ Fa, JF Fa w g gl n D1 T1 ∧ (∀ k, Fa k → F k) ∧ ∀ w' D' T', JFP Fa w g gl n D' T' w' → L5P F w g gl q rl n D' T' D2 T2 w' := by
 obtain ⟨Fa, Fb, h1, h2, h3, h4⟩ := h
 refine ⟨Fa, h1, fun k e => (h4 k).2 (.inl e), fun w' D' T' hp => ?_⟩
 obtain ⟨F', k1, k2, k3⟩ := hp
 refine ⟨fun k => F' k ∨ Fb k, ⟨F', Fb, k1, h2.kept k2 (fun k e1 e2 => h3 k e2 e1), fun k e1 e2 => ?_, fun _ => Iff.rfl⟩, k2.weaken (fun k e => (h4 k).2 (.inl e)), fun k e => ?_⟩
 ·
  rcases k3 k e1 with e | e
  ·
   exact h3 k e e2
  ·
   have := h2.lt k e2; omega
 ·
  rcases e with e | e
  ·
   rcases k3 k e with e | e
   ·
    exact .inl ((h4 k).2 (.inl e))
   ·
    exact .inr e
  ·
   exact .inl ((h4 k).2 (.inr e))
theorem L5.stepP {F : Nat → Prop} {w : World} {g gl q rl n : Nat} {D1 D2 : DK} {T1 T2 : LT} (h : L5 F w g gl q rl n D1 T1 D2 T2) :
  ∃ Fb, PJ Fb w q rl n D2 T2 ∧ (∀ k, Fb k → F k) ∧ ∀ w' D' T', PJP Fb w q rl n D' T' w' → L5P F w g gl q rl n D1 T1 D' T' w' := by
 obtain ⟨Fa, Fb, h1, h2, h3, h4⟩ := h
 refine ⟨Fb, h2, fun k e => (h4 k).2 (.inr e), fun w' D' T' hp => ?_⟩
 obtain ⟨F', k1, k2, k3⟩ := hp
 refine ⟨fun k => Fa k ∨ F' k, ⟨Fa, F', h1.kept k2 (fun k e1 e2 => h3 k e1 e2), k1, fun k e1 e2 => ?_, fun _ => Iff.rfl⟩, k2.weaken (fun k e => (h4 k).2 (.inr e)), fun k e => ?_⟩
 ·
  rcases k3 k e2 with e | e
  ·
   exact h3 k e1 e
  ·
   have := h1.lt k e1; omega
 ·
  rcases e with e | e
  ·
   exact .inl ((h4 k).2 (.inl e))
  ·
   rcases k3 k e with e | e
   ·
    exact .inl ((h4 k).2 (.inr e))
   ·
    exact .inr e
theorem L5.stepD {F : Nat → Prop} {w : World} {g gl q rl n : Nat} {D1 D2 : DK} {T1 T2 : LT} (h : L5 F w g gl q rl n D1 T1 D2 T2) :
  ∃ Fd, DX w g Fd n D1 ∧ (∀ k, Fd k → F k) ∧ ∀ w' D', DXPost w g Fd n D' w' → L5P F w g gl q rl n D' T1 D2 T2 w' := by
 obtain ⟨Fa, h1, h2, h3⟩ := h.stepJ
 obtain ⟨Fd, Fl, k1, k2, k3, k4⟩ := h1
 refine ⟨Fd, k1, fun k e => h2 k ((k4 k).2 (.inl e)), fun w' D' hp => h3 w' D' T1 ?_⟩
 obtain ⟨F', hd', hk, hf⟩ := hp
 exact (JPost.quit k2 hd' (Below.refl _ _) hk hf k3).jf k4
theorem L5.stepQ {F : Nat → Prop} {w : World} {g gl q rl n : Nat} {D1 D2 : DK} {T1 T2 : LT} (h : L5 F w g gl q rl n D1 T1 D2 T2) :
  ∃ Pd, PX w q Pd n D2 ∧ (∀ k, Pd k → F k) ∧ ∀ w' D', PXPost w q Pd n D' w' → L5P F w g gl q rl n D1 T1 D' T2 w' := by
 obtain ⟨Fb, h1, h2, h3⟩ := h.stepP
 obtain ⟨Fd, Fl, hf, k1, k2, k3, k4, k5, k6⟩ := h1
 refine ⟨Fd, k1, fun k e => h2 k ((k6 k).2 (.inl e)), fun w' D' hp => h3 w' D' T2 ?_⟩
 obtain ⟨F', hd', hk, hg⟩ := hp
 exact (PJPost.quit k2 hd' hk hg k5).pj k3 k4 k6
def E5 (F : Nat → Prop) (w : World) (g q n : Nat) (D : DK) : Prop := ∃ Fd Pd, DX w g Fd n D ∧ PX w q Pd n D ∧ (∀ k, Fd k → ¬ Pd k) ∧ ∀ k, F k ↔ Fd k ∨ Pd k
theorem L5.disks {F : Nat → Prop} {w : World} {g gl q rl n : Nat} {D : DK} {T1 T2 : LT} (h : L5 F w g gl q rl n D T1 D T2) : ∃ F', E5 F' w g q n D ∧ ∀ k, F' k → F k := by
 obtain ⟨Fa, Fb, ⟨Fd, Fl, a1, a2, a3, a4⟩, ⟨Pd, Pl, hf, b1, b2, b3, b4, b5, b6⟩, h3, h4⟩ := h
 refine ⟨fun k => Fd k ∨ Pd k, ⟨Fd, Pd, a1, b1, fun k e1 e2 => h3 k ((a4 k).2 (.inl e1)) ((b6 k).2 (.inl e2)), fun _ => Iff.rfl⟩, fun k e => ?_⟩
 rcases e with e | e
 ·
  exact (h4 k).2 (.inl ((a4 k).2 (.inl e)))
 ·
  exact (h4 k).2 (.inr ((b6 k).2 (.inl e)))
noncomputable def begR (n : Nat) (D : DK) (T : LT) (s : List UInt8) : Int × DK × LT :=
 if T.half.gen = 1099511627776 then (1, D, T)
 else if n / 2 < (rowsOf (T.half.gen + 1) 0 s).length then (9, D, T)
 else ((dPhases D (n / 2 - T.from_) [List.replicate (n / 2) zero64, rowsOf (T.half.gen + 1) 0 s]).1, (dPhases D (n / 2 - T.from_) [List.replicate (n / 2) zero64, rowsOf (T.half.gen + 1) 0 s]).2,
  if (dPhases D (n / 2 - T.from_) [List.replicate (n / 2) zero64, rowsOf (T.half.gen + 1) 0 s]).1 = 0 then ⟨n / 2 - T.from_, ⟨T.half.gen + 1, s, [], (rowsOf (T.half.gen + 1) 0 s).length⟩, true⟩ else T)
noncomputable def apR (n : Nat) (D : DK) (T : LT) (rs : List (List UInt8)) : Int × DK × LT := if T.begun = true then appR n D T rs else (14, D, T)
structure Inv (n : Nat) (D : DK) (T : LT) (k : Nat) : Prop where
 n4 : 4 ≤ n
 n3 : n ≤ 300
 full : D.now = sets D.syn D.op
 torn : D.torn = true → D.off = true
 fr : T.from_ = 0 ∨ T.from_ = n / 2
 gen : T.half.gen ≤ 1099511627776
 fin : T.half.fin ≤ n / 2
 snap : T.half.snap.length ≤ 65536
 recs : ∀ r ∈ T.half.recs, r.length ≤ 65536
 num : T.half.recs.length ≤ 1000 * (k + 1)
 op : D.op.length ≤ 1000 * (k + 1)
theorem Begin_big (w : World) (gl g : Nat) (Fl : Nat → Prop) (T : LT) (hl : LX w gl Fl g T) (v : Value) (hgen : T.half.gen = 1099511627776) :
  Calls Try.prog 14 #[.pointer (some ⟨gl, 0, none⟩), v] w fun e w' => e = .returned (.int .i64 1) ∧ w = w' := by
 obtain ⟨vsn, vrc, h1, h2, h3, h4⟩ := hl
 have hx2 := h1.cell (j := 2) rfl
 rw [hgen] at hx2
 clear h1 h2 h3 h4 hgen
 go_enter Try.func14, Try.ntmps14
 go_wp2_with fail
 go_ret
 exact ⟨rfl, rfl⟩
theorem JFP.below {F : Nat → Prop} {w w' : World} {g gl n : Nat} {D : DK} {T : LT} (h : JF F w g gl n D T) (hb : Below w.heap.size w w') : JFP F w g gl n D T w' := ⟨F, h.below hb, (Kept.of_below hb).weaken (fun _ e => e.elim), fun _ e => .inl e⟩
theorem PJP.below {F : Nat → Prop} {w w' : World} {q rl n : Nat} {D : DK} {T : LT} (h : PJ F w q rl n D T) (hb : Below w.heap.size w w') : PJP F w q rl n D T w' := ⟨F, h.below hb, (Kept.of_below hb).weaken (fun _ e => e.elim), fun _ e => .inl e⟩
theorem Begin_5 {F : Nat → Prop} (w : World) (g gl q rl n : Nat) (D D2 : DK) (T T2 : LT) (k : Nat) (h : L5 F w g gl q rl n D T D2 T2) (hI : Inv n D T k) (hk : k ≤ 400) (v : Value) (s : List UInt8) (hs : Stay F w (fun x => Bs x v s)) (hl : s.length ≤ 65536) :
  Calls Try.prog 14 #[.pointer (some ⟨gl, 0, none⟩), v] w fun e w' => e = .returned (.int .i64 (begR n D T s).1) ∧ L5P F w g gl q rl n (begR n D T s).2.1 (begR n D T s).2.2 D2 T2 w' := by
 obtain ⟨Fa, h1, h2, h3⟩ := h.stepJ
 have hop := hI.op
 unfold begR
 split
 ·
  rename_i hg
  obtain ⟨Fd, Fl, k1, k2, k3, k4⟩ := id h1
  refine (Begin_big w gl g Fl T k2 v hg).mono ?_
  rintro e w' ⟨he, rfl⟩
  exact ⟨he, h3 _ _ _ (JFP.below h1 (Below.refl _ _))⟩
 ·
  rename_i hg
  have hg2 : T.half.gen < 1099511627776 := by have := hI.gen; omega
  split
  ·
   rename_i hf
   obtain ⟨Fd, Fl, k1, k2, k3, k4⟩ := id h1
   refine (Begin_full w gl g n Fd Fl D T k1 k2 v s hs.here hg2 hl hf).mono ?_
   rintro e w' ⟨he, hb⟩
   exact ⟨he, h3 _ _ _ (JFP.below h1 hb)⟩
  ·
   rename_i hf
   refine (Begin_g w g gl n D T h1 v s (fun w' hk => hs w' (hk.weaken h2)) hI.fr hg2 hl (by omega) (by omega)).mono ?_
   rintro e w' ⟨he, hj⟩
   exact ⟨he, h3 _ _ _ hj⟩
theorem PBegin_5 {F : Nat → Prop} (w : World) (g gl q rl n : Nat) (D D2 : DK) (T T2 : LT) (k : Nat) (h : L5 F w g gl q rl n D T D2 T2) (hI : Inv n D2 T2 k) (hk : k ≤ 400) (v : Value) (s : List UInt8) (hs : Stay F w (fun x => Bs x v s)) (hl : s.length ≤ 65536) :
  Calls Try.prog 51 #[.pointer (some ⟨rl, 0, none⟩), v] w fun e w' => e = .returned (.int .i64 (begR n D2 T2 s).1) ∧ L5P F w g gl q rl n D T (begR n D2 T2 s).2.1 (begR n D2 T2 s).2.2 w' := by
 obtain ⟨Fb, h1, h2, h3⟩ := h.stepP
 have hop := hI.op
 obtain ⟨Pd, Pl, hf, k1, k2, k3, k4, k5, k6⟩ := id h1
 unfold begR
 split
 ·
  rename_i hg
  refine (PBegin_big w rl hf q Pl T2 k2 v hg).mono ?_
  rintro e w' ⟨he, rfl⟩
  exact ⟨he, h3 _ _ _ (PJP.below h1 (Below.refl _ _))⟩
 ·
  rename_i hg
  have hg2 : T2.half.gen < 1099511627776 := by have := hI.gen; omega
  split
  ·
   rename_i hu
   refine (PBegin_full w rl hf q n Pd Pl D2 T2 k1 k2 v s hs.here hg2 hl hu).mono ?_
   rintro e w' ⟨he, rfl⟩
   exact ⟨he, h3 _ _ _ (PJP.below h1 (Below.refl _ _))⟩
  ·
   rename_i hu
   have hot : n / 2 - T2.from_ = (1 - hf) * (n / 2) := by
    rcases (show hf = 0 ∨ hf = 1 by omega) with e | e
    ·
     rw [k4, e]; omega
    ·
     rw [k4, e]; omega
   refine (PBegin_go w rl hf q n Pd Pl D2 T2 k1 k2 k5 v s (fun w' hk => hs w' (hk.weaken (fun i e => h2 i ((k6 i).2 (.inl e))))) k3 (n / 2 - T2.from_) hot hg2 hl (by omega) (by omega)).mono ?_
   rintro e w' ⟨he, hj⟩
   refine ⟨he, h3 _ _ _ ?_⟩
   show PJP Fb w q rl n (dPhases D2 (n / 2 - T2.from_) _).2 (if (dPhases D2 (n / 2 - T2.from_) _).1 = 0 then _ else _) w'
   split
   ·
    rename_i h0
    rw [if_pos h0, if_pos h0] at hj
    exact hj.pj (by omega) hot k6
   ·
    rename_i h0
    rw [if_neg h0, if_neg h0] at hj
    exact hj.pj k3 k4 k6
theorem Append_5 {F : Nat → Prop} (w : World) (g gl q rl n : Nat) (D D2 : DK) (T T2 : LT) (k : Nat) (h : L5 F w g gl q rl n D T D2 T2) (hI : Inv n D T k) (hk : k ≤ 400) (hoff : D.off = false) (v : Value) (rs : List (List UInt8)) (hs : Stay F w (fun x => Bss x v rs)) (hl : ∀ r ∈ rs, r.length ≤ 65536) (hn : rs.length ≤ 1000) :
  Calls Try.prog 15 #[.pointer (some ⟨gl, 0, none⟩), v] w fun e w' => e = .returned (.int .i64 (apR n D T rs).1) ∧ L5P F w g gl q rl n (apR n D T rs).2.1 (apR n D T rs).2.2 D2 T2 w' := by
 obtain ⟨Fa, h1, h2, h3⟩ := h.stepJ
 have hop := hI.op
 have hnm := hI.num
 have hfr := hI.fr
 unfold apR
 split
 ·
  rename_i hb
  refine (Append_g w g gl n D T h1 v rs (fun w' hk => hs w' (hk.weaken h2)) hb hoff (by omega) hI.fin hI.gen (by omega) hl hn (by omega)).mono ?_
  rintro e w' ⟨he, hj⟩
  exact ⟨he, h3 _ _ _ hj⟩
 ·
  rename_i hb
  obtain ⟨Fd, Fl, k1, k2, k3, k4⟩ := id h1
  refine (Append_state w gl g Fl T k2 (by simpa using hb) v).mono ?_
  rintro e w' ⟨he, rfl⟩
  exact ⟨he, h3 _ _ _ (JFP.below h1 (Below.refl _ _))⟩
theorem appR_from (n : Nat) (D : DK) (T : LT) (rs : List (List UInt8)) : (appR n D T rs).2.2.from_ = T.from_ := by
 unfold appR
 split
 ·
  rfl
 ·
  split <;> rfl
theorem PAppend_5 {F : Nat → Prop} (w : World) (g gl q rl n : Nat) (D D2 : DK) (T T2 : LT) (k : Nat) (h : L5 F w g gl q rl n D T D2 T2) (hI : Inv n D2 T2 k) (hk : k ≤ 400) (hoff : D2.off = false) (v : Value) (L : List SV) (rs : List (List UInt8)) (hs : Stay F w (fun x => Rs encS 1 x v L ∧ RowsOf x L rs)) (hl : ∀ r ∈ rs, r.length ≤ 65536) (hn : rs.length ≤ 1000) :
  Calls Try.prog 56 #[.pointer (some ⟨rl, 0, none⟩), v] w fun e w' => e = .returned (.int .i64 (apR n D2 T2 rs).1) ∧ L5P F w g gl q rl n D T (apR n D2 T2 rs).2.1 (apR n D2 T2 rs).2.2 w' := by
 obtain ⟨Fb, h1, h2, h3⟩ := h.stepP
 have hop := hI.op
 have hnm := hI.num
 have hfr := hI.fr
 obtain ⟨Pd, Pl, hf, k1, k2, k3, k4, k5, k6⟩ := id h1
 unfold apR
 split
 ·
  rename_i hb
  refine (PAppend_go w rl hf q n Pd Pl D2 T2 k1 k2 k5 v L rs (fun w' hk => hs w' (hk.weaken (fun i e => h2 i ((k6 i).2 e)))) hb hoff k3 k4 hI.fin hI.gen (by omega) hl hn (by omega)).mono ?_
  rintro e w' ⟨he, hj⟩
  exact ⟨he, h3 _ _ _ (hj.pj k3 (by rw [appR_from]; exact k4) k6)⟩
 ·
  rename_i hb
  refine (PAppend_state w rl hf q Pl T2 k2 (by simpa using hb) v).mono ?_
  rintro e w' ⟨he, rfl⟩
  exact ⟨he, h3 _ _ _ (PJP.below h1 (Below.refl _ _))⟩
theorem LSync_5 {F : Nat → Prop} (w : World) (g gl q rl n : Nat) (D D2 : DK) (T T2 : LT) (h : L5 F w g gl q rl n D T D2 T2) :
  Calls Try.prog 16 #[.pointer (some ⟨gl, 0, none⟩)] w fun e w' => e = .returned (.int .i64 (dSync D).1) ∧ L5P F w g gl q rl n (dSync D).2 T D2 T2 w' := by
 obtain ⟨Fa, h1, h2, h3⟩ := h.stepJ
 exact (Sync_g w g gl n D T h1).mono fun _ _ ⟨he, hj⟩ => ⟨he, h3 _ _ _ hj⟩
theorem Sync_5 {F : Nat → Prop} (w : World) (g gl q rl n : Nat) (D D2 : DK) (T T2 : LT) (h : L5 F w g gl q rl n D T D2 T2) :
  Calls Try.prog 44 #[.pointer (some ⟨g, 0, none⟩)] w fun e w' => e = .returned (.int .i64 (dSync D).1) ∧ L5P F w g gl q rl n (dSync D).2 T D2 T2 w' := by
 obtain ⟨Fd, h1, h2, h3⟩ := h.stepD
 exact (Sync_x w g n Fd D h1).mono fun _ _ ⟨he, hj⟩ => ⟨he, h3 _ _ hj⟩
theorem PSync_5 {F : Nat → Prop} (w : World) (g gl q rl n : Nat) (D D2 : DK) (T T2 : LT) (h : L5 F w g gl q rl n D T D2 T2) :
  Calls Try.prog 50 #[.pointer (some ⟨q, 0, none⟩)] w fun e w' => e = .returned (.int .i64 (dSync D2).1) ∧ L5P F w g gl q rl n D T (dSync D2).2 T2 w' := by
 obtain ⟨Fd, h1, h2, h3⟩ := h.stepQ
 exact (PSync_x w q n Fd D2 h1).mono fun _ _ ⟨he, hj⟩ => ⟨he, h3 _ _ hj⟩
theorem Arm_5 {F : Nat → Prop} (w : World) (g gl q rl n : Nat) (D D2 : DK) (T T2 : LT) (h : L5 F w g gl q rl n D T D2 T2) (m : Int) (hm : m ≤ 9223372036854775807) :
  Calls Try.prog 30 #[.pointer (some ⟨g, 0, none⟩), .int .i64 m] w fun e w' => e = .returned (.tuple #[]) ∧ L5P F w g gl q rl n (dArm D m) T D2 T2 w' := by
 obtain ⟨Fd, h1, h2, h3⟩ := h.stepD
 exact (Arm_x w g n Fd D h1 m hm).mono fun _ _ ⟨he, hj⟩ => ⟨he, h3 _ _ hj⟩
theorem PArm_5 {F : Nat → Prop} (w : World) (g gl q rl n : Nat) (D D2 : DK) (T T2 : LT) (h : L5 F w g gl q rl n D T D2 T2) (m : Int) (hm : m ≤ 9223372036854775807) :
  Calls Try.prog 53 #[.pointer (some ⟨q, 0, none⟩), .int .i64 m] w fun e w' => e = .returned (.tuple #[]) ∧ L5P F w g gl q rl n D T (dArm D2 m) T2 w' := by
 obtain ⟨Fd, h1, h2, h3⟩ := h.stepQ
 exact (PArm_x w q n Fd D2 h1 m hm).mono fun _ _ ⟨he, hj⟩ => ⟨he, h3 _ _ hj⟩
theorem Crash_5 {F : Nat → Prop} (w : World) (g gl q rl n : Nat) (D D2 : DK) (T T2 : LT) (h : L5 F w g gl q rl n D T D2 T2) (vp : Value) (picks : List Int) (hp : Stay F w (fun x => Is x vp picks)) :
  Calls Try.prog 26 #[.pointer (some ⟨g, 0, none⟩), vp] w fun e w' => e = .returned (.tuple #[]) ∧ L5P F w g gl q rl n (dCrash D picks) T D2 T2 w' := by
 obtain ⟨Fd, h1, h2, h3⟩ := h.stepD
 exact (Crash_x w g n Fd D h1 vp picks (fun w' hk => hp w' (hk.weaken h2))).mono fun _ _ ⟨he, hj⟩ => ⟨he, h3 _ _ hj⟩
theorem PCrash_5 {F : Nat → Prop} (w : World) (g gl q rl n : Nat) (D D2 : DK) (T T2 : LT) (h : L5 F w g gl q rl n D T D2 T2) (vp : Value) (picks : List Int) (hp : Stay F w (fun x => Is x vp picks)) :
  Calls Try.prog 35 #[.pointer (some ⟨q, 0, none⟩), vp] w fun e w' => e = .returned (.tuple #[]) ∧ L5P F w g gl q rl n D T (dCrash D2 picks) T2 w' := by
 obtain ⟨Fd, h1, h2, h3⟩ := h.stepQ
 exact (PCrash_x w q n Fd D2 h1 vp picks (fun w' hk => hp w' (hk.weaken h2))).mono fun _ _ ⟨he, hj⟩ => ⟨he, h3 _ _ hj⟩
theorem Start_5 {F : Nat → Prop} (w : World) (g gl q rl n : Nat) (D D2 : DK) (T T2 : LT) (h : L5 F w g gl q rl n D T D2 T2) :
  Calls Try.prog 27 #[.pointer (some ⟨g, 0, none⟩)] w fun e w' => e = .returned (.tuple #[]) ∧ L5P F w g gl q rl n (dStart D) T D2 T2 w' := by
 obtain ⟨Fd, h1, h2, h3⟩ := h.stepD
 exact (Start_x w g n Fd D h1).mono fun _ _ ⟨he, hj⟩ => ⟨he, h3 _ _ hj⟩
theorem PStart_5 {F : Nat → Prop} (w : World) (g gl q rl n : Nat) (D D2 : DK) (T T2 : LT) (h : L5 F w g gl q rl n D T D2 T2) (ht : D2.torn = true → D2.off = true) :
  Calls Try.prog 36 #[.pointer (some ⟨q, 0, none⟩)] w fun e w' => e = .returned (.tuple #[]) ∧ L5P F w g gl q rl n D T (dStart D2) T2 w' := by
 obtain ⟨Fd, h1, h2, h3⟩ := h.stepQ
 exact (PStart_x w q n Fd D2 h1 ht).mono fun _ _ ⟨he, hj⟩ => ⟨he, h3 _ _ hj⟩
theorem Write_5 {F : Nat → Prop} (w : World) (g gl q rl n : Nat) (D D2 : DK) (T T2 : LT) (h : L5 F w g gl q rl n D T D2 T2) (k : Nat) (hk : k < n) (b : List UInt8) (hb : b.length = 64) (hf : D.op.length < 1000000) :
  Calls Try.prog 54 #[.pointer (some ⟨g, 0, none⟩), .int .i64 (k : Int), .agg (bvs b).toArray] w fun e w' => e = .returned (.int .i64 (dWrite D k b).1) ∧ L5P F w g gl q rl n (dWrite D k b).2 T D2 T2 w' := by
 obtain ⟨Fd, h1, h2, h3⟩ := h.stepD
 exact (Write_x w g n Fd D h1 k b hk hb hf).mono fun _ _ ⟨he, hj⟩ => ⟨he, h3 _ _ hj⟩
theorem PWrite_5 {F : Nat → Prop} (w : World) (g gl q rl n : Nat) (D D2 : DK) (T T2 : LT) (h : L5 F w g gl q rl n D T D2 T2) (k : Nat) (hk : k < n) (b : List UInt8) (hb : b.length = 64) (hf : D2.op.length < 1000000) :
  Calls Try.prog 55 #[.pointer (some ⟨q, 0, none⟩), .int .i64 (k : Int), .agg (bvs b).toArray] w fun e w' => e = .returned (.int .i64 (dWrite D2 k b).1) ∧ L5P F w g gl q rl n D T (dWrite D2 k b).2 T2 w' := by
 obtain ⟨Fd, h1, h2, h3⟩ := h.stepQ
 exact (PWrite_x w q n Fd D2 h1 k hk b hb hf).mono fun _ _ ⟨he, hj⟩ => ⟨he, h3 _ _ hj⟩
theorem mids_most (M : List (List UInt8)) : (mids M).length ≤ M.length * 62 := by
 induction M with
 | nil => simp [mids]
 | cons a r ih =>
  have h1 : (mids (a :: r)).length = (mid a).length + (mids r).length := by simp [mids]
  rw [h1, List.length_cons, Nat.succ_mul]
  have h2 : (mid a).length ≤ 62 := by unfold mid; rw [List.length_take]; omega
  omega
theorem rowP_most (L : List (List UInt8)) : (rowP L).length ≤ L.length * 62 := by
 have h1 : (rowP L).length ≤ (rowBy L).length := by unfold rowP fBody; rw [List.length_take, List.length_drop]; omega
 have h2 := mids_most (L.take (rowN L))
 rw [List.length_take] at h2
 have h3 : min (rowN L) L.length * 62 ≤ L.length * 62 := Nat.mul_le_mul_right _ (by omega)
 unfold rowBy at h1
 omega
theorem recsF_most (L : List (List UInt8)) (g : Nat) : ∀ (f k e : Nat), ∀ r ∈ (recsF L g f k e).1, r.length ≤ L.length * 62
 | 0, k, e => by simp [recsF]
 | f + 1, k, e => by
  rw [recsF]
  split
  ·
   intro r hr
   rcases List.mem_cons.1 hr with rfl | hr
   ·
    refine Nat.le_trans (rowP_most _) (Nat.mul_le_mul_right _ ?_)
    rw [List.length_drop]; omega
   ·
    exact recsF_most L g f _ _ r hr
  ·
   intro r hr; cases hr
theorem readL_most (L : List (List UInt8)) : (readL L).snap.length ≤ L.length * 62 ∧ ∀ r ∈ (readL L).recs, r.length ≤ L.length * 62 := by
 unfold readL
 split
 ·
  exact ⟨rowP_most L, recsF_most L _ _ _ _⟩
 ·
  exact ⟨by simp, fun r hr => by cases hr⟩
theorem dLast_inv {D : DK} (h1 : D.now = sets D.syn D.op) (h2 : D.torn = true → D.off = true) : (dLast D).2.now = sets (dLast D).2.syn (dLast D).2.op ∧ ((dLast D).2.torn = true → (dLast D).2.off = true) := by
 obtain ⟨s1, s2, s3⟩ := dLast_same D
 refine ⟨by rw [s1, s2, s3]; exact h1, ?_⟩
 unfold dLast
 split
 ·
  exact h2
 ·
  split
  ·
   exact h2
  ·
   exact fun _ => rfl
theorem dWrite_inv {D : DK} {k : Nat} {b : List UInt8} (h1 : D.now = sets D.syn D.op) (h2 : D.torn = true → D.off = true) : (dWrite D k b).2.now = sets (dWrite D k b).2.syn (dWrite D k b).2.op ∧ ((dWrite D k b).2.torn = true → (dWrite D k b).2.off = true) := by
 have hp : (dPut D k b).now = sets (dPut D k b).syn (dPut D k b).op := by
  unfold dPut
  simp only [sets, List.foldl_append, List.foldl_cons, List.foldl_nil]
  rw [h1]
  rfl
 unfold dWrite
 split
 ·
  exact ⟨h1, h2⟩
 ·
  split <;> exact dLast_inv hp h2
theorem dSync_inv {D : DK} (h1 : D.now = sets D.syn D.op) (h2 : D.torn = true → D.off = true) : (dSync D).2.now = sets (dSync D).2.syn (dSync D).2.op ∧ ((dSync D).2.torn = true → (dSync D).2.off = true) ∧ (dSync D).2.op.length ≤ D.op.length := by
 obtain ⟨s1, s2, s3⟩ := dLast_same D
 have hlt : (dLast D).2.torn = true → (dLast D).2.off = true := by
  unfold dLast
  split
  ·
   exact h2
  ·
   split
   ·
    exact h2
   ·
    exact fun _ => rfl
 unfold dSync
 split
 ·
  exact ⟨h1, h2, Nat.le_refl _⟩
 ·
  split
  ·
   exact ⟨by rw [s1, s2, s3]; exact h1, hlt, by show (dLast D).2.op.length ≤ _; rw [s3]; exact Nat.le_refl _⟩
  ·
   exact ⟨by show (dLast D).2.now = _; rw [s2, h1]; rfl, hlt, by simp⟩
theorem dWrites_inv : ∀ (L : List (List UInt8)) {D : DK} {k : Nat}, D.now = sets D.syn D.op → (D.torn = true → D.off = true) → (dWrites D k L).2.now = sets (dWrites D k L).2.syn (dWrites D k L).2.op ∧ ((dWrites D k L).2.torn = true → (dWrites D k L).2.off = true)
 | [], D, k, h1, h2 => ⟨h1, h2⟩
 | b :: L, D, k, h1, h2 => by
  have h3 := dWrite_inv (k := k) (b := b) h1 h2
  by_cases h : (dWrite D k b).1 = 0
  ·
   rw [dWrites_ok h]
   exact dWrites_inv L h3.1 h3.2
  ·
   rw [dWrites_stop h]
   exact h3
theorem dPhase_inv {L : List (List UInt8)} {D : DK} {k : Nat} (h1 : D.now = sets D.syn D.op) (h2 : D.torn = true → D.off = true) : (dPhase D k L).2.now = sets (dPhase D k L).2.syn (dPhase D k L).2.op ∧ ((dPhase D k L).2.torn = true → (dPhase D k L).2.off = true) ∧ (dPhase D k L).2.op.length ≤ D.op.length + L.length := by
 have h3 := dWrites_inv L (k := k) h1 h2
 have h4 := dWrites_op L D k
 unfold dPhase
 split
 ·
  have h5 := dSync_inv h3.1 h3.2
  exact ⟨h5.1, h5.2.1, Nat.le_trans h5.2.2 h4⟩
 ·
  exact ⟨h3.1, h3.2, h4⟩
theorem dPhases_inv : ∀ (Ls : List (List (List UInt8))) {D : DK} {k : Nat}, D.now = sets D.syn D.op → (D.torn = true → D.off = true) → (dPhases D k Ls).2.now = sets (dPhases D k Ls).2.syn (dPhases D k Ls).2.op ∧ ((dPhases D k Ls).2.torn = true → (dPhases D k Ls).2.off = true) ∧ (dPhases D k Ls).2.op.length ≤ D.op.length + Ls.flatten.length
 | [], D, k, h1, h2 => ⟨h1, h2, Nat.le_add_right _ _⟩
 | L :: Ls, D, k, h1, h2 => by
  have h3 := dPhase_inv (L := L) (k := k) h1 h2
  rw [List.flatten_cons, List.length_append]
  by_cases h : (dPhase D k L).1 = 0
  ·
   rw [dPhases_ok h]
   have h4 := dPhases_inv Ls (k := k) h3.1 h3.2.1
   refine ⟨h4.1, h4.2.1, ?_⟩
   omega
  ·
   rw [dPhases_stop h]
   refine ⟨h3.1, h3.2.1, ?_⟩
   show (dPhase D k L).2.op.length ≤ _
   omega
theorem Inv.disk {n k : Nat} {D D' : DK} {T : LT} (h : Inv n D T k) (h1 : D'.now = sets D'.syn D'.op) (h2 : D'.torn = true → D'.off = true) (h3 : D'.op.length ≤ D.op.length + 1000) : Inv n D' T (k + 1) :=
 ⟨h.n4, h.n3, h1, h2, h.fr, h.gen, h.fin, h.snap, h.recs, by have := h.num; omega, by have := h.op; omega⟩
theorem Inv.more {n k : Nat} {D : DK} {T : LT} (h : Inv n D T k) : Inv n D T (k + 1) := h.disk h.full h.torn (Nat.le_add_right _ _)
theorem Inv.sync {n k : Nat} {D : DK} {T : LT} (h : Inv n D T k) : Inv n (dSync D).2 T (k + 1) := by
 have h1 := dSync_inv h.full h.torn
 exact h.disk h1.1 h1.2.1 (by omega)
theorem Inv.arm {n k : Nat} {D : DK} {T : LT} (h : Inv n D T k) (m : Int) : Inv n (dArm D m) T (k + 1) := by
 unfold dArm
 split
 ·
  exact h.more
 ·
  exact h.disk h.full h.torn (Nat.le_add_right _ _)
theorem Inv.begin {n k : Nat} {D : DK} {T : LT} (h : Inv n D T k) (s : List UInt8) (hs : s.length ≤ 65536) : Inv n (begR n D T s).2.1 (begR n D T s).2.2 (k + 1) := by
 unfold begR
 split
 ·
  exact h.more
 ·
  rename_i hg
  split
  ·
   exact h.more
  ·
   rename_i hu
   have h3 := h.n3
   have hp := dPhases_inv [List.replicate (n / 2) zero64, rowsOf (T.half.gen + 1) 0 s] (k := n / 2 - T.from_) h.full h.torn
   have hd : Inv n (dPhases D (n / 2 - T.from_) [List.replicate (n / 2) zero64, rowsOf (T.half.gen + 1) 0 s]).2 T (k + 1) := h.disk hp.1 hp.2.1 (by have := hp.2.2; simp at this; omega)
   show Inv n _ (if _ then _ else _) (k + 1)
   split
   ·
    exact ⟨h.n4, h.n3, hd.full, hd.torn, by show n / 2 - T.from_ = 0 ∨ n / 2 - T.from_ = n / 2; rcases h.fr with e | e <;> omega, by show T.half.gen + 1 ≤ _; have := h.gen; omega, by show (rowsOf _ _ _).length ≤ _; omega, hs, (fun r hr => by cases hr), Nat.zero_le _, hd.op⟩
   ·
    exact hd
theorem Inv.append {n k : Nat} {D : DK} {T : LT} (h : Inv n D T k) (rs : List (List UInt8)) (hl : ∀ r ∈ rs, r.length ≤ 65536) (hn : rs.length ≤ 1000) : Inv n (apR n D T rs).2.1 (apR n D T rs).2.2 (k + 1) := by
 unfold apR
 split
 ·
  unfold appR
  split
  ·
   exact h.more
  ·
   rename_i hu
   have h3 := h.n3
   have hw := dWrites_inv (recRows T.half.gen (T.half.recs.length + 1) rs) (k := T.from_ + T.half.fin) h.full h.torn
   have ho := dWrites_op (recRows T.half.gen (T.half.recs.length + 1) rs) D (T.from_ + T.half.fin)
   have hd : Inv n (dWrites D (T.from_ + T.half.fin) (recRows T.half.gen (T.half.recs.length + 1) rs)).2 T (k + 1) := h.disk hw.1 hw.2 (by omega)
   split
   ·
    refine ⟨h.n4, h.n3, hd.full, hd.torn, h.fr, h.gen, by show _ + _ ≤ _; omega, h.snap, fun r hr => ?_, ?_, hd.op⟩
    ·
     rcases List.mem_append.1 hr with e | e
     ·
      exact h.recs r e
     ·
      exact hl r e
    ·
     show (T.half.recs ++ rs).length ≤ _
     rw [List.length_append]
     have := h.num
     omega
   ·
    exact hd
 ·
  exact h.more
theorem Inv.open {n k : Nat} {D : DK} (h4 : 4 ≤ n) (h3 : n ≤ 300) (hok : D.now.length = n) (h1 : D.now = sets D.syn D.op) (h2 : D.torn = true → D.off = true) (ho : D.op.length ≤ 1000 * (k + 1)) : Inv n D (openT n D.now) k := by
 obtain ⟨e1, e2, e3⟩ := openT_half n D.now
 have hl : (halfOf D.now (openT n D.now).from_ (n / 2)).length ≤ n / 2 := by unfold halfOf; rw [List.length_take]; omega
 have hb := readL_bound (halfOf D.now (openT n D.now).from_ (n / 2))
 have hm := readL_most (halfOf D.now (openT n D.now).from_ (n / 2))
 rw [← e2] at hb hm
 have hl2 : (halfOf D.now (openT n D.now).from_ (n / 2)).length * 62 ≤ 150 * 62 := Nat.mul_le_mul_right _ (by omega)
 exact ⟨h4, h3, h1, h2, e1, hb.2.2, by omega, by omega, fun r hr => by have := hm.2 r hr; omega, by omega, ho⟩
end Cam
