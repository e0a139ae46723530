import Derived.Test.YtlnclfiiplpaiaaJnQ
import Derived.Test.YtlnclfiiplpaiaaJnL2z
import Derived.Test.YtlnclfiiplpaiaaJnRU
/- What a life leaves, wherever the power goes; found.  -/
namespace Cam
open Go Go.RowKit Go.Proofs
structure OnA (D : DK) : Prop where
 off : D.off = false
 full : D.now = sets D.syn D.op
theorem OnD.a {D : DK} (h : OnD D) : OnA D := ⟨h.off, h.full⟩
theorem OnA.next {D : DK} (h : OnA D) (a : Int) : OnA { D with arm := a } := ⟨h.off, h.full⟩
theorem OnA.put {D : DK} (h : OnA D) (k : Nat) (b : List UInt8) : OnA (dPut D k b) := ⟨h.off, by
 show D.now.set k b = sets D.syn (D.op ++ [(k, b)])
 rw [sets_snoc, ← h.full]⟩
theorem OnA.puts {D : DK} (h : OnA D) (k : Nat) (L : List (List UInt8)) : OnA (dPuts D k L) := ⟨h.off, by
 show Cam.puts D.now k L = sets D.syn (D.op ++ idxs k L)
 rw [sets_idxs, ← h.full]⟩
theorem OnA.laid {D : DK} (h : OnA D) (N : List (List UInt8)) : OnA (dLaid D N) := ⟨h.off, rfl⟩
theorem dLast_cases (D : DK) : (∃ a, dLast D = (false, { D with arm := a })) ∨ ∃ a, dLast D = (true, { D with arm := a, off := true, torn := true }) := by
 unfold dLast
 by_cases h : D.arm = 0
 ·
  exact .inl ⟨D.arm, by rw [if_pos h]⟩
 ·
  rw [if_neg h]
  by_cases h2 : 1 < D.arm
  ·
   exact .inl ⟨D.arm - 1, by rw [if_pos h2]⟩
  ·
   exact .inr ⟨D.arm - 1, by rw [if_neg h2]⟩
theorem dWrites_arm : ∀ (L : List (List UInt8)) {D : DK} (_ : OnA D) (k : Nat), (∃ a, dWrites D k L = (0, { dPuts D k L with arm := a })) ∨
  ∃ j D', j ≤ L.length ∧ dWrites D k L = (7, D') ∧ D'.off = true ∧ D'.syn = D.syn ∧ D'.op = D.op ++ idxs k (L.take j)
 | [], D, h, k => .inl ⟨D.arm, by rw [dWrites]; simp [dPuts, puts, idxs]⟩
 | b :: L, D, h, k => by
  have e0 : dWrite D k b = (if (dLast (dPut D k b)).1 = true then 7 else 0, (dLast (dPut D k b)).2) := by unfold dWrite; rw [if_neg (by rw [h.off]; decide)]
  rcases dLast_cases (dPut D k b) with ⟨a, e⟩ | ⟨a, e⟩
  ·
   rw [e] at e0
   rw [dWrites_ok (by rw [e0]; rfl), e0]
   rcases dWrites_arm L ((h.put k b).next a) (k + 1) with ⟨a2, e2⟩ | ⟨j, D', hj, e2, h1, h2, h3⟩
   ·
    refine .inl ⟨a2, ?_⟩
    simp only
    rw [e2]
    simp [dPuts, dPut, puts, idxs]
   ·
    refine .inr ⟨j + 1, D', by simp; omega, ?_, h1, h2, ?_⟩
    ·
     simp only
     rw [e2]
    ·
     rw [h3]
     simp [dPut, idxs]
  ·
   rw [e] at e0
   have e5 : (dWrite D k b).1 ≠ 0 := by rw [e0]; simp
   refine .inr ⟨1, { dPut D k b with arm := a, off := true, torn := true }, by simp, ?_, rfl, rfl, ?_⟩
   ·
    rw [dWrites_stop e5, e0]
    rfl
   ·
    simp [dPut, idxs]
end Cam
namespace Cam
open Go Go.RowKit Go.Proofs
end Cam
namespace Cam
open Go Go.RowKit Go.Proofs
def svOf : Value → SV
 | .slice a n c => (a, n, c)
 | _ => (none, 0, 0)
def RowsOf (w : World) (L : List SV) (ls : List (List UInt8)) : Prop := L.length = ls.length ∧ ∀ i (h : i < L.length) (h' : i < ls.length), Bs w L[i].v ls[i]
theorem flat_encS (L : List SV) : flatW encS L = L.map SV.v := by
 induction L with
 | nil => rfl
 | cons a l ih => simp only [flatW, List.map_cons, List.flatten_cons] at ih ⊢; rw [ih]; rfl
theorem Bss.rs {w : World} {v : Value} {ls : List (List UInt8)} (h : Bss w v ls) : ∃ L : List SV, Rs encS 1 w v L ∧ RowsOf w L ls := by
 obtain ⟨vs, h1, h2, h3⟩ := h
 have hv : ∀ i (h : i < vs.length), (svOf vs[i]).v = vs[i] := fun i hi => by
  obtain ⟨a, c, e, _⟩ := (h3 i (by omega) hi).shape
  rw [e]
  rfl
 have he : (vs.map svOf).map SV.v = vs := by
  apply List.ext_getElem
  ·
   simp
  ·
   intro i a b
   simpa using hv i b
 refine ⟨vs.map svOf, ⟨encS_len, ?_⟩, by simp [h1], fun i a b => ?_⟩
 ·
  rw [flat_encS, he, List.length_map, h1]
  exact h2
 ·
  have := h3 i b (by simpa using a)
  rw [← hv i (by simpa using a)] at this
  simpa using this
theorem RowsOf.mono {w w' : World} {L : List SV} {ls : List (List UInt8)} (h : RowsOf w L ls) (hb : Below w.heap.size w w') : RowsOf w' L ls := ⟨h.1, fun i a b => (h.2 i a b).mono hb⟩
theorem RowsOf.nil (w : World) : RowsOf w [] [] := ⟨rfl, fun _ h => absurd h (Nat.not_lt_zero _)⟩
theorem RowsOf.append {w : World} {L M : List SV} {ls ms : List (List UInt8)} (h : RowsOf w L ls) (k : RowsOf w M ms) : RowsOf w (L ++ M) (ls ++ ms) := by
 refine ⟨by simp [h.1, k.1], fun i a b => ?_⟩
 have hl := h.1
 by_cases hi : i < L.length
 ·
  rw [List.getElem_append_left hi, List.getElem_append_left (by omega)]
  exact h.2 i hi (by omega)
 ·
  simp only [List.length_append] at a b
  rw [List.getElem_append_right (by omega), List.getElem_append_right (by omega)]
  simp only [← hl]
  exact k.2 (i - L.length) (by omega) (by omega)
theorem RowsOf.one {w : World} {s : SV} {l : List UInt8} (h : Bs w s.v l) : RowsOf w [s] [l] := ⟨rfl, fun i a b => by
 obtain rfl : i = 0 := by simp at a; exact a
 exact h⟩
theorem Bss.take {w : World} {a : Option Addr} {n c k : Nat} {ls : List (List UInt8)} (h : Bss w (.slice a n c) ls) (hk : k ≤ ls.length) : Bss w (.slice a k c) (ls.take k) := by
 obtain ⟨vs, h1, ⟨h0, a', c', e, h3, h4, h5, h6⟩, h7⟩ := h
 simp only [Value.slice.injEq] at e
 obtain ⟨rfl, rfl, rfl⟩ := e
 have hl : (ls.take k).length = k := by rw [List.length_take]; omega
 refine ⟨vs.take k, by rw [List.length_take, List.length_take, h1], ⟨by rw [hl, List.length_take]; omega, a, c, by rw [hl], by omega, h4, fun h => ?_, fun ad had i u hu => ?_⟩, fun i a b => ?_⟩
 ·
  exact h5 (by omega)
 ·
  rw [List.getElem?_take] at hu
  split at hu
  ·
   exact h6 ad had i u hu
  ·
   cases hu
 ·
  simp only [List.getElem_take]
  exact h7 i (by rw [hl] at a; omega) (by rw [List.length_take] at b; omega)
theorem Stay.recs {F Fr : Nat → Prop} {w : World} {v : Value} {R : List (List UInt8)} (h : recsM w Fr v R) (hF : ∀ q, Fr q → ¬ F q) : Stay F w (fun w' => Bss w' v R) := fun _ hk => (h.kept hk hF).bss
theorem Begin_g {F : Nat → Prop} (w : World) (g gl n : Nat) (D : DK) (T : LT) (h : JF F w g gl n D T) (v : Value) (s : List UInt8) (hsn : ∀ w', Kept F w w' → Bs w' v s)
  (hfr : T.from_ = 0 ∨ T.from_ = n / 2) (hgen : T.half.gen < 1099511627776) (hs : s.length ≤ 65536) (hfit : (rowsOf (T.half.gen + 1) 0 s).length ≤ n / 2) (hop : D.op.length ≤ 500000) :
  Calls Try.prog 14 #[.pointer (some ⟨gl, 0, none⟩), v] w fun e w' => e = .returned (.int .i64 (dPhases D (n / 2 - T.from_) [List.replicate (n / 2) zero64, rowsOf (T.half.gen + 1) 0 s]).1) ∧
   JFP F w g gl n (dPhases D (n / 2 - T.from_) [List.replicate (n / 2) zero64, rowsOf (T.half.gen + 1) 0 s]).2 (if (dPhases D (n / 2 - T.from_) [List.replicate (n / 2) zero64, rowsOf (T.half.gen + 1) 0 s]).1 = 0 then ⟨n / 2 - T.from_, ⟨T.half.gen + 1, s, [], (rowsOf (T.half.gen + 1) 0 s).length⟩, true⟩ else T) w' := by
 obtain ⟨Fd, Fl, h1, h2, h3, h4⟩ := h
 refine (Begin_go w gl g n Fd Fl D T h1 h2 h3 v s (fun w' hk => hsn w' (hk.weaken (fun k e => (h4 k).2 (.inl e)))) hfr hgen hs hfit hop).mono ?_
 rintro e w' ⟨he, hj⟩
 exact ⟨he, hj.jf h4⟩
theorem Append_g {F : Nat → Prop} (w : World) (g gl n : Nat) (D : DK) (T : LT) (h : JF F w g gl n D T) (v : Value) (rs : List (List UInt8)) (hrs : ∀ w', Kept F w w' → Bss w' v rs)
  (hbg : T.begun = true) (hoff : D.off = false) (hfr : T.from_ ≤ n / 2) (hfi : T.half.fin ≤ n / 2) (hgen : T.half.gen ≤ 1099511627776) (hnr : T.half.recs.length ≤ 1000000) (hle : ∀ r ∈ rs, r.length ≤ 65536) (hns : rs.length ≤ 1000) (hop : D.op.length ≤ 500000) :
  Calls Try.prog 15 #[.pointer (some ⟨gl, 0, none⟩), v] w fun e w' => e = .returned (.int .i64 (appR n D T rs).1) ∧ JFP F w g gl n (appR n D T rs).2.1 (appR n D T rs).2.2 w' := by
 obtain ⟨Fd, Fl, h1, h2, h3, h4⟩ := h
 refine (Append_go w gl g n Fd Fl D T h1 h2 h3 v rs (fun w' hk => hrs w' (hk.weaken (fun k e => (h4 k).2 e))) hbg hoff hfr hfi hgen hnr hle hns hop).mono ?_
 rintro e w' ⟨he, hj⟩
 exact ⟨he, hj.jf h4⟩
theorem Sync_g {F : Nat → Prop} (w : World) (g gl n : Nat) (D : DK) (T : LT) (h : JF F w g gl n D T) :
  Calls Try.prog 16 #[.pointer (some ⟨gl, 0, none⟩)] w fun e w' => e = .returned (.int .i64 (dSync D).1) ∧ JFP F w g gl n (dSync D).2 T w' := by
 obtain ⟨Fd, Fl, h1, h2, h3, h4⟩ := h
 refine (LSync_any w g gl n Fd Fl D T h1 h2 h3).mono ?_
 rintro e w' ⟨he, hj⟩
 exact ⟨he, hj.jf h4⟩
end Cam
namespace Cam
open Go Go.RowKit Go.Proofs
theorem idxs_append : ∀ (A B : List (List UInt8)) (k : Nat), idxs k (A ++ B) = idxs k A ++ idxs (k + A.length) B
 | [], B, k => by simp [idxs]
 | a :: A, B, k => by
  rw [List.cons_append, idxs, idxs_append A B, idxs, List.length_cons, List.cons_append, Nat.add_assoc, Nat.add_comm 1]
def App (n fr g : Nat) (S : List (List UInt8)) (s : List UInt8) (D : DK) (T : LT) (e : Int) (rs : List (List UInt8)) : Prop :=
 D.syn = S ∧ ∃ j, j ≤ (recRows (g + 1) 1 rs).length ∧ D.op = idxs (n / 2 - fr + (rowsOf (g + 1) 0 s).length) ((recRows (g + 1) 1 rs).take j) ∧
  (e = 0 ∧ OnA D ∧ T = ⟨n / 2 - fr, ⟨g + 1, s, rs, (rowsOf (g + 1) 0 s).length + (recRows (g + 1) 1 rs).length⟩, true⟩ ∧ j = (recRows (g + 1) 1 rs).length ∨ e = 7)
theorem App.step {n fr g : Nat} {S : List (List UInt8)} {s : List UInt8} {D : DK} {T : LT} {rs : List (List UInt8)} (h : App n fr g S s D T 0 rs) (r : List UInt8) (hfit : (rowsOf (g + 1) 0 s).length + (recRows (g + 1) 1 (rs ++ [r])).length ≤ n / 2) :
  App n fr g S s (appR n D T [r]).2.1 (appR n D T [r]).2.2 (appR n D T [r]).1 (rs ++ [r]) := by
 obtain ⟨h1, j, hj, hop, h3⟩ := h
 rcases h3 with ⟨_, hon, hT, hj2⟩ | h3
 ·
  subst hj2
  rw [List.take_length] at hop
  have e1 : recRows (g + 1) 1 (rs ++ [r]) = recRows (g + 1) 1 rs ++ recRows (g + 1) (rs.length + 1) [r] := by rw [recRows_append, Nat.add_comm 1]
  have hf2 : ¬ n / 2 < T.half.fin + (recRows T.half.gen (T.half.recs.length + 1) [r]).length := by
   rw [hT]
   rw [e1, List.length_append] at hfit
   show ¬ n / 2 < (rowsOf (g + 1) 0 s).length + (recRows (g + 1) 1 rs).length + (recRows (g + 1) (rs.length + 1) [r]).length
   omega
  have ea : appR n D T [r] = if (dWrites D (T.from_ + T.half.fin) (recRows T.half.gen (T.half.recs.length + 1) [r])).1 = 0 then (0, (dWrites D (T.from_ + T.half.fin) (recRows T.half.gen (T.half.recs.length + 1) [r])).2, ⟨T.from_, ⟨T.half.gen, T.half.snap, T.half.recs ++ [r], T.half.fin + (recRows T.half.gen (T.half.recs.length + 1) [r]).length⟩, T.begun⟩)
    else ((dWrites D (T.from_ + T.half.fin) (recRows T.half.gen (T.half.recs.length + 1) [r])).1, (dWrites D (T.from_ + T.half.fin) (recRows T.half.gen (T.half.recs.length + 1) [r])).2, T) := by
   unfold appR
   rw [if_neg hf2]
  rcases dWrites_arm (recRows T.half.gen (T.half.recs.length + 1) [r]) hon (T.from_ + T.half.fin) with ⟨a, e⟩ | ⟨j2, D', hj2, e, _, k2, k3⟩
  ·
   rw [e, if_pos rfl] at ea
   rw [ea]
   refine ⟨h1, (recRows (g + 1) 1 (rs ++ [r])).length, Nat.le_refl _, ?_, .inl ⟨rfl, (hon.puts _ _).next a, ?_, rfl⟩⟩
   ·
    show D.op ++ idxs _ _ = _
    rw [List.take_length, e1, idxs_append, hop, hT]
    simp only [Nat.add_assoc]
   ·
    rw [hT]
    simp only [LT.mk.injEq, HalfT.mk.injEq, true_and, and_true]
    rw [e1, List.length_append, Nat.add_assoc]
  ·
   rw [e, if_neg (by simp)] at ea
   rw [ea]
   rw [hT] at hj2
   refine ⟨k2.trans h1, (recRows (g + 1) 1 rs).length + j2, by rw [e1, List.length_append]; exact Nat.add_le_add_left hj2 _, ?_, .inr rfl⟩
   show D'.op = _
   rw [k3, hop, e1, List.take_length_add_append, idxs_append, hT]
   simp only [Nat.add_assoc]
 ·
  cases h3
end Cam
