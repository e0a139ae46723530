import Derived.Test.YtgeclnjkkjmbaaaGreatVe
/- What is read of what was written, and what was read is what is written. No program in sight. -/
namespace Cam
open Go Go.RowKit Go.Proofs

theorem snoc_ind {α : Type} {p : List α → Prop} (h0 : p []) (h1 : ∀ L x, p L → p (L ++ [x])) (L : List α) : p L := by
  have h : ∀ M : List α, p M.reverse := by
    intro M
    induction M with
    | nil => exact h0
    | cons x M ih => rw [List.reverse_cons]; exact h1 _ x ih
  have := h L.reverse
  rwa [List.reverse_reverse] at this
theorem rIs_ok {k : Nat} {s : RS} (h : (rIs k s).2.2 = 0) : s.2 = 0 ∧ s.1 = encIs (rIs k s).1 ++ (rIs k s).2.1 := by
  induction k with
  | zero => exact ⟨h, by simp [rIs, encIs]⟩
  | succ k ih =>
    have h1 := rI_ok (s := (rIs k s).2) h
    have h2 := ih h1.1
    refine ⟨h2.1, ?_⟩
    rw [h2.2, h1.2]
    simp only [rIs]
    rw [encIs_app, List.append_assoc]
    simp [encIs]
theorem rIs_enc : ∀ (xs : List Int) (rest : List UInt8), okI xs → rIs xs.length (encIs xs ++ rest, 0) = (xs, (rest, 0)) := by
  refine snoc_ind (p := fun xs => ∀ rest : List UInt8, okI xs → rIs xs.length (encIs xs ++ rest, 0) = (xs, (rest, 0))) ?_ ?_
  · intro rest _; simp [rIs, encIs]
  · intro xs x ih rest h
    have h1 : okI xs := fun n hn => h n (List.mem_append_left _ hn)
    have h2 := h x (by simp)
    rw [List.length_append, List.length_singleton]
    have e : encIs (xs ++ [x]) ++ rest = encIs xs ++ (encI x ++ rest) := by rw [encIs_app, List.append_assoc]; simp [encIs]
    rw [e]
    simp only [rIs]
    rw [ih _ h1, rI_enc x rest h2]
/-- a reader and a writer of the same rows -/
structure Code {α : Type} (rd : RS → α × RS) (b : α → List UInt8) (ok : α → Prop) : Prop where
  stick : ∀ s : RS, s.2 ≠ 0 → (rd s).2.2 ≠ 0
  sound : ∀ s, (rd s).2.2 = 0 → s.1 = b (rd s).1 ++ (rd s).2.1
  comp : ∀ x rest, ok x → rd (b x ++ rest, 0) = (x, (rest, 0))
  ok : ∀ s, ok (rd s).1
theorem Code.nums {α : Type} {rd : RS → α × RS} (K : Nat) (f : List Int → α) (ints : α → List Int) (hrd : ∀ s, rd s = (f (rIs K s).1, (rIs K s).2)) (h1 : ∀ L : List Int, L.length = K → ints (f L) = L) (h2 : ∀ x, f (ints x) = x) (hl : ∀ x, (ints x).length = K) :
    Code rd (fun x => encIs (ints x)) (fun x => okI (ints x)) where
  stick := fun s h => by rw [hrd]; exact rIs_stick K h
  sound := fun s h => by
    rw [hrd] at h ⊢
    rw [(rIs_ok h).2]
    simp only
    rw [h1 _ (rIs_len K s), ← (rIs_ok h).2]
  comp := fun x rest h => by
    rw [hrd]
    have := rIs_enc (ints x) rest h
    rw [hl x] at this
    rw [this]
    simp only
    rw [h2]
  ok := fun s => by
    rw [hrd]
    simp only
    rw [h1 _ (rIs_len K s)]
    exact rIs_range K s
theorem rM_enc (b : Bool) (rest : List UInt8) : rM (markB b ++ rest, 0) = (b, (rest, 0)) := by cases b <;> rfl
theorem rM_stick {s : RS} (h : s.2 ≠ 0) : (rM s).2.2 ≠ 0 := by unfold rM; rw [if_pos h]; exact h
theorem rRs_ok {α : Type} {rd : RS → α × RS} {b : α → List UInt8} {ok : α → Prop} (c : Code rd b ok) {k : Nat} {s : RS} (h : (rRs rd k s).2.2 = 0) : s.2 = 0 ∧ s.1 = encG b (rRs rd k s).1 ++ (rRs rd k s).2.1 := by
  induction k with
  | zero => exact ⟨h, by simp [rRs, encG]⟩
  | succ k ih =>
    have h1 : (rRs rd k s).2.2 = 0 := Decidable.byContradiction fun hn => c.stick _ hn h
    have h2 := ih h1
    refine ⟨h2.1, ?_⟩
    have h3 := c.sound (rRs rd k s).2 h
    rw [h2.2, h3]
    simp [rRs, encG]
theorem rRs_enc {α : Type} {rd : RS → α × RS} {b : α → List UInt8} {ok : α → Prop} (c : Code rd b ok) : ∀ (L : List α) (rest : List UInt8), (∀ x ∈ L, ok x) → rRs rd L.length (encG b L ++ rest, 0) = (L, (rest, 0)) := by
  refine snoc_ind (p := fun L => ∀ rest : List UInt8, (∀ x ∈ L, ok x) → rRs rd L.length (encG b L ++ rest, 0) = (L, (rest, 0))) ?_ ?_
  · intro rest _; simp [rRs, encG]
  · intro L x ih rest h
    rw [List.length_append, List.length_singleton]
    have e : encG b (L ++ [x]) ++ rest = encG b L ++ (b x ++ rest) := by simp [encG]
    rw [e]
    simp only [rRs]
    rw [ih _ (fun y hy => h y (List.mem_append_left _ hy)), c.comp x rest (h x (by simp))]
theorem rRs_all {α : Type} {rd : RS → α × RS} {b : α → List UInt8} {ok : α → Prop} (c : Code rd b ok) (k : Nat) (s : RS) : ∀ x ∈ (rRs rd k s).1, ok x := by
  induction k with
  | zero => intro x hx; cases hx
  | succ k ih =>
    intro x hx
    rcases List.mem_append.1 hx with h | h
    · exact ih x h
    · rw [List.mem_singleton] at h
      rw [h]
      exact c.ok _
theorem okI_one {n : Int} (h : -9223372036854775808 ≤ n ∧ n ≤ 9223372036854775807) : okI [n] := fun m hm => by rw [List.mem_singleton] at hm; rw [hm]; exact h
/-- a list, read -/
theorem Code.list_ok {α : Type} {rd : RS → α × RS} {b : α → List UInt8} {ok : α → Prop} (c : Code rd b ok) {wb : Bool} {s : RS} (h : Good (elW wb (rI s).1) (elL rd wb s).2) :
    s.1 = lwG b (elL rd wb s).1 ++ (elL rd wb s).2.1 ∧ (elL rd wb s).1.length ≤ 1024 := by
  have h1 := h.1
  have hL : elL rd wb s = rRs rd (rI s).1.toNat (rI s).2 := by unfold elL; rw [h1]; simp
  have h2 := h.2
  rw [hL] at h2 ⊢
  have h3 := rRs_ok c h2
  have h4 := rI_ok h3.1
  have hn : 0 ≤ (rI s).1 ∧ (rI s).1 ≤ 1024 := by
    unfold elW at h1
    simp at h1
    omega
  have hl := rRs_len rd (rI s).1.toNat (rI s).2
  refine ⟨?_, by rw [hl]; omega⟩
  unfold lwG
  rw [if_neg (by rw [hl]; omega), hl, h4.2, h3.2]
  have e : ((rI s).1.toNat : Int) = (rI s).1 := by omega
  rw [e, List.append_assoc]
  simp [encIs]
theorem Code.list_enc {α : Type} {rd : RS → α × RS} {b : α → List UInt8} {ok : α → Prop} (c : Code rd b ok) (L : List α) (rest : List UInt8) (hl : L.length ≤ 1024) (h : ∀ x ∈ L, ok x) :
    elL rd false (lwG b L ++ rest, 0) = (L, (rest, 0)) ∧ elW false (rI (lwG b L ++ rest, 0)).1 = false := by
  have e : lwG b L ++ rest = encI (L.length : Int) ++ (encG b L ++ rest) := by unfold lwG; rw [if_neg (by omega)]; simp [encIs]
  have h1 := rI_enc (L.length : Int) (encG b L ++ rest) (by omega)
  have hw : elW false (L.length : Int) = false := by unfold elW; simp; omega
  unfold elL
  rw [e, h1]
  simp only [hw, Bool.false_eq_true, if_false, Int.toNat_natCast]
  exact ⟨rRs_enc c L rest h, trivial⟩
theorem Code.list_all {α : Type} {rd : RS → α × RS} {b : α → List UInt8} {ok : α → Prop} (c : Code rd b ok) (wb : Bool) (s : RS) : ∀ x ∈ (elL rd wb s).1, ok x := by
  unfold elL
  split
  · intro x hx; cases hx
  · exact rRs_all c _ _
theorem Code.list_back {α : Type} {rd : RS → α × RS} {wb : Bool} {s : RS} (h : Good (elW wb (rI s).1) (elL rd wb s).2) : Good wb s := Good.list (rd := rd) h
theorem lw_eq {α : Type} (f : α → List Int) (L : List α) : lw f L = lwG (fun a => encIs (f a)) L := rfl
theorem code_DT : Code rdDT (fun x : DT => encIs x.ints) (fun x => okI x.ints) := Code.nums 3 (fun L => (⟨L.getD 0 0, L.getD 1 0, L.getD 2 0⟩ : DT)) DT.ints (fun s => rfl) (fun L h => by
  match L, h with
  | [x0, x1, x2], _ => rfl) (fun x => rfl) (fun x => rfl)
theorem code_FT : Code rdFT (fun x : FT => encIs x.ints) (fun x => okI x.ints) := Code.nums 8 (fun L => (⟨L.getD 0 0, L.getD 1 0, L.getD 2 0, L.getD 3 0, L.getD 4 0, L.getD 5 0, L.getD 6 0, L.getD 7 0⟩ : FT)) FT.ints (fun s => rfl) (fun L h => by
  match L, h with
  | [x0, x1, x2, x3, x4, x5, x6, x7], _ => rfl) (fun x => rfl) (fun x => rfl)
theorem code_MbT : Code rdMbT (fun x : MbT => encIs x.ints) (fun x => okI x.ints) := Code.nums 3 (fun L => (⟨L.getD 0 0, L.getD 1 0, L.getD 2 0⟩ : MbT)) MbT.ints (fun s => rfl) (fun L h => by
  match L, h with
  | [x0, x1, x2], _ => rfl) (fun x => rfl) (fun x => rfl)
theorem code_InT : Code rdInT (fun x : InT => encIs x.ints) (fun x => okI x.ints) := Code.nums 12 (fun L => (⟨L.getD 0 0, L.getD 1 0, L.getD 2 0, L.getD 3 0, L.getD 4 0, L.getD 5 0, L.getD 6 0, L.getD 7 0, L.getD 8 0, L.getD 9 0, L.getD 10 0, L.getD 11 0⟩ : InT)) InT.ints (fun s => rfl) (fun L h => by
  match L, h with
  | [x0, x1, x2, x3, x4, x5, x6, x7, x8, x9, x10, x11], _ => rfl) (fun x => rfl) (fun x => rfl)
theorem code_AsT : Code rdAsT (fun x : AsT => encIs x.ints) (fun x => okI x.ints) := Code.nums 4 (fun L => (⟨L.getD 0 0, L.getD 1 0, L.getD 2 0, L.getD 3 0⟩ : AsT)) AsT.ints (fun s => rfl) (fun L h => by
  match L, h with
  | [x0, x1, x2, x3], _ => rfl) (fun x => rfl) (fun x => rfl)
theorem code_TrT : Code rdTrT TrT.bytes (fun x => okI x.ints) where
  stick := fun s h => rM_stick (rIs_stick 6 h)
  sound := fun s h => by
    have h1 := rM_ok (s := (rIs 6 s).2) h
    have h2 := rIs_ok h1.1
    have hi : (rdTrT s).1.ints = (rIs 6 s).1 := by
      have hl := rIs_len 6 s
      unfold rdTrT TrT.ints
      simp only
      generalize (rIs 6 s).1 = L at hl
      match L, hl with
      | [x0, x1, x2, x3, x4, x5], _ => rfl
    unfold TrT.bytes
    rw [hi, h2.2, h1.2]
    simp only [List.append_assoc]
    rfl
  comp := fun x rest h => by
    have h1 := rIs_enc x.ints (markB x.off ++ rest) h
    rw [show x.ints.length = 6 from rfl] at h1
    unfold rdTrT TrT.bytes
    rw [List.append_assoc, h1]
    simp only
    rw [rM_enc]
    rfl
  ok := fun s => by
    have hl := rIs_len 6 s
    have hr := rIs_range 6 s
    unfold rdTrT TrT.ints
    simp only
    generalize (rIs 6 s).1 = L at hl hr
    match L, hl, hr with
    | [x0, x1, x2, x3, x4, x5], _, hr => exact hr
theorem code_PoT : Code rdPoT (fun x : PoT => encIs x.ints) (fun x => okI x.ints) := Code.nums 4 (fun L => (⟨L.getD 0 0, L.getD 1 0, L.getD 2 0, L.getD 3 0⟩ : PoT)) PoT.ints (fun s => rfl) (fun L h => by
  match L, h with
  | [x0, x1, x2, x3], _ => rfl) (fun x => rfl) (fun x => rfl)
theorem code_BaT : Code rdBaT (fun x : BaT => encIs x.ints) (fun x => okI x.ints) := Code.nums 4 (fun L => (⟨L.getD 0 0, L.getD 1 0, L.getD 2 0, L.getD 3 0⟩ : BaT)) BaT.ints (fun s => rfl) (fun L h => by
  match L, h with
  | [x0, x1, x2, x3], _ => rfl) (fun x => rfl) (fun x => rfl)
theorem code_PlT : Code rdPlT (fun x : PlT => encIs x.ints) (fun x => okI x.ints) := Code.nums 3 (fun L => (⟨L.getD 0 0, L.getD 1 0, L.getD 2 0⟩ : PlT)) PlT.ints (fun s => rfl) (fun L h => by
  match L, h with
  | [x0, x1, x2], _ => rfl) (fun x => rfl) (fun x => rfl)
theorem code_CaT : Code rdCaT (fun x : CaT => encIs x.ints) (fun x => okI x.ints) := Code.nums 4 (fun L => (⟨L.getD 0 0, L.getD 1 0, L.getD 2 0, L.getD 3 0⟩ : CaT)) CaT.ints (fun s => rfl) (fun L h => by
  match L, h with
  | [x0, x1, x2, x3], _ => rfl) (fun x => rfl) (fun x => rfl)
theorem code_BiT : Code rdBiT (fun x : BiT => encIs x.ints) (fun x => okI x.ints) := Code.nums 5 (fun L => (⟨L.getD 0 0, L.getD 1 0, L.getD 2 0, L.getD 3 0, L.getD 4 0⟩ : BiT)) BiT.ints (fun s => rfl) (fun L h => by
  match L, h with
  | [x0, x1, x2, x3, x4], _ => rfl) (fun x => rfl) (fun x => rfl)

/-- a reply -/
def RepT.ok (x : RepT) : Prop := okI [x.c, x.n, x.a] ∧ (∀ d ∈ x.D, okI d.ints) ∧ ∀ f ∈ x.F, okI f.ints
def RepT.bytes (x : RepT) : List UInt8 := encRep x.c x.n x.a x.D x.F
theorem rep_ok {wb : Bool} {s : RS} (h : Good (rpW wb s) (rpF wb s).2) : s.1 = (rpT wb s).bytes ++ (rpF wb s).2.1 ∧ repW (rpT wb s).D (rpT wb s).F = false := by
  have g1 : Good (rpV wb s) (rpD wb s).2 := Good.list (rd := rdFT) h
  have g0 : Good wb (rIs 3 s).2 := Good.list (rd := rdDT) g1
  have e2 := code_FT.list_ok (wb := rpV wb s) (s := (rpD wb s).2) h
  have e1 := code_DT.list_ok (wb := wb) (s := (rIs 3 s).2) g1
  have e0 := rIs_ok g0.2
  have hc : [(rpT wb s).c, (rpT wb s).n, (rpT wb s).a] = (rIs 3 s).1 := by
    have hl := rIs_len 3 s
    unfold rpT
    simp only
    generalize (rIs 3 s).1 = L at hl
    match L, hl with
    | [x0, x1, x2], _ => rfl
  refine ⟨?_, ?_⟩
  · unfold RepT.bytes encRep
    rw [hc, e0.2, e1.1]
    show _ = _ ++ (lwG _ (rpD wb s).1 ++ lwG _ (rpF wb s).1) ++ _
    rw [show (elL rdDT wb (rIs 3 s).2) = rpD wb s from rfl, e2.1]
    show _ ++ (_ ++ (_ ++ _)) = _
    simp only [List.append_assoc]
    rfl
  · have h1 := e1.2
    have h2 := e2.2
    unfold repW rpT
    simp only
    have h3 : (rpD wb s).1.length ≤ 1024 := h1
    have h4 : (rpF wb s).1.length ≤ 1024 := h2
    simp
    omega
theorem rep_enc (x : RepT) (rest : List UInt8) (hw : repW x.D x.F = false) (h : x.ok) : rpT false (x.bytes ++ rest, 0) = x ∧ (rpF false (x.bytes ++ rest, 0)).2 = (rest, 0) ∧ rpW false (x.bytes ++ rest, 0) = false := by
  have hl : x.D.length ≤ 1024 ∧ x.F.length ≤ 1024 := by unfold repW at hw; simp at hw; omega
  have e0 := rIs_enc [x.c, x.n, x.a] (lwG (fun d : DT => encIs d.ints) x.D ++ (lwG (fun f : FT => encIs f.ints) x.F ++ rest)) h.1
  have e1 := code_DT.list_enc x.D (lwG (fun f : FT => encIs f.ints) x.F ++ rest) hl.1 h.2.1
  have e2 := code_FT.list_enc x.F rest hl.2 h.2.2
  have hb : x.bytes ++ rest = encIs [x.c, x.n, x.a] ++ (lwG (fun d : DT => encIs d.ints) x.D ++ (lwG (fun f : FT => encIs f.ints) x.F ++ rest)) := by
    unfold RepT.bytes encRep
    rw [lw_eq, lw_eq]
    simp only [List.append_assoc]
  rw [show ([x.c, x.n, x.a] : List Int).length = 3 from rfl] at e0
  unfold rpT rpW rpF rpV rpD
  rw [hb, e0]
  simp only
  rw [e1.1, e1.2]
  simp only
  rw [e2.1, e2.2]
  exact ⟨rfl, rfl, rfl⟩
theorem rep_all (wb : Bool) (s : RS) : (rpT wb s).ok := by
  refine ⟨?_, code_DT.list_all wb _, code_FT.list_all _ _⟩
  have hl := rIs_len 3 s
  have hr := rIs_range 3 s
  unfold rpT
  simp only
  generalize (rIs 3 s).1 = L at hl hr
  match L, hl, hr with
  | [x0, x1, x2], _, hr => exact hr
/-- a seat -/
theorem seat_ok {wb : Bool} {s : RS} (h : Good (seW wb s) (seS wb s)) : s.1 = (seT wb s).bytes ++ (seS wb s).1 ∧ repW (seT wb s).r.D (seT wb s).r.F = false ∧ Good wb s := by
  have e1 := rep_ok (wb := wb) (s := (rIs 2 s).2) h
  have g0 : Good wb (rIs 2 s).2 := Good.rep h
  have e0 := rIs_ok g0.2
  have hc : [(seT wb s).client, (seT wb s).seq] = (rIs 2 s).1 := by
    have hl := rIs_len 2 s
    unfold seT
    simp only
    generalize (rIs 2 s).1 = L at hl
    match L, hl with
    | [x0, x1], _ => rfl
  refine ⟨?_, e1.2, Good.ints 2 g0⟩
  unfold SeT.bytes
  rw [hc, e0.2, e1.1]
  simp only [List.append_assoc]
  rfl
theorem seat_enc (x : SeT) (rest : List UInt8) (hw : repW x.r.D x.r.F = false) (h : x.ok) : seT false (x.bytes ++ rest, 0) = x ∧ seS false (x.bytes ++ rest, 0) = (rest, 0) ∧ seW false (x.bytes ++ rest, 0) = false := by
  have e0 := rIs_enc [x.client, x.seq] (x.r.bytes ++ rest) h.1
  have e1 := rep_enc x.r rest hw h.2
  have hb : x.bytes ++ rest = encIs [x.client, x.seq] ++ (x.r.bytes ++ rest) := by unfold SeT.bytes RepT.bytes; simp only [List.append_assoc]
  rw [show ([x.client, x.seq] : List Int).length = 2 from rfl] at e0
  unfold seT seS seW
  rw [hb, e0]
  simp only
  rw [e1.1, e1.2.1, e1.2.2]
  exact ⟨rfl, rfl, rfl⟩
theorem seat_all (wb : Bool) (s : RS) : (seT wb s).ok := by
  refine ⟨?_, rep_all wb _⟩
  have hl := rIs_len 2 s
  have hr := rIs_range 2 s
  unfold seT
  simp only
  generalize (rIs 2 s).1 = L at hl hr
  match L, hl, hr with
  | [x0, x1], _, hr => exact hr
theorem sesN_ok {k : Nat} {s : RS} (h : Good (sesN k false s).2.2 (sesN k false s).2.1) : s.2 = 0 ∧ s.1 = encG SeT.bytes (sesN k false s).1 ++ (sesN k false s).2.1.1 ∧ anyW (sesN k false s).1 = false ∧ (sesN k false s).1.length = k := by
  induction k with
  | zero => exact ⟨h.2, by simp [sesN, encG], rfl, rfl⟩
  | succ k ih =>
    by_cases hb : (sesN k false s).2.2 = true
    · have e : sesN (k + 1) false s = sesN k false s := sesN_stop hb 1
      rw [e] at h
      rw [h.1] at hb
      cases hb
    · have e : sesN (k + 1) false s = ((sesN k false s).1 ++ [seT (sesN k false s).2.2 (sesN k false s).2.1], seS (sesN k false s).2.2 (sesN k false s).2.1, seW (sesN k false s).2.2 (sesN k false s).2.1) := by
        show (if (sesN k false s).2.2 = true then _ else _) = _
        rw [if_neg hb]
      rw [e] at h ⊢
      have h1 := seat_ok (wb := (sesN k false s).2.2) (s := (sesN k false s).2.1) h
      have h2 := ih h1.2.2
      refine ⟨h2.1, ?_, ?_, by simp [h2.2.2.2]⟩
      · rw [h2.2.1, h1.1]
        simp [encG]
      · have h3 := h2.2.2.1
        unfold anyW at h3 ⊢
        rw [List.any_append, h3]
        simp [h1.2.1]
theorem sesN_enc : ∀ (L : List SeT) (rest : List UInt8), anyW L = false → (∀ x ∈ L, x.ok) → sesN L.length false (encG SeT.bytes L ++ rest, 0) = (L, (rest, 0), false) := by
  refine snoc_ind (p := fun L => ∀ rest : List UInt8, anyW L = false → (∀ x ∈ L, x.ok) → sesN L.length false (encG SeT.bytes L ++ rest, 0) = (L, (rest, 0), false)) ?_ ?_
  · intro rest _ _; simp [sesN, encG]
  · intro L x ih rest hw h
    unfold anyW at hw
    rw [List.any_append] at hw
    have hw1 : anyW L = false := by unfold anyW; cases hq : L.any fun s => repW s.r.D s.r.F <;> simp [hq] at hw ⊢
    have hw2 : repW x.r.D x.r.F = false := by cases hq : repW x.r.D x.r.F <;> simp [hq] at hw ⊢
    rw [List.length_append, List.length_singleton]
    have e : encG SeT.bytes (L ++ [x]) ++ rest = encG SeT.bytes L ++ (x.bytes ++ rest) := by simp [encG]
    rw [e]
    have h1 := ih (x.bytes ++ rest) hw1 (fun y hy => h y (List.mem_append_left _ hy))
    have h2 := seat_enc x rest hw2 (h x (by simp))
    show (if (sesN L.length false _).2.2 = true then _ else _) = _
    rw [h1]
    simp only [Bool.false_eq_true, if_false]
    rw [h2.1, h2.2.1, h2.2.2]
theorem sesN_all (k : Nat) (wb : Bool) (s : RS) : ∀ x ∈ (sesN k wb s).1, x.ok := by
  induction k with
  | zero => intro x hx; cases hx
  | succ k ih =>
    unfold sesN
    split
    · exact ih
    · intro x hx
      rcases List.mem_append.1 hx with h | h
      · exact ih x h
      · rw [List.mem_singleton] at h
        rw [h]
        exact seat_all _ _
theorem seL_ok {wb : Bool} {s : RS} (h : Good (seL wb s).2.2 (seL wb s).2.1) : s.1 = lwG SeT.bytes (seL wb s).1 ++ (seL wb s).2.1.1 ∧ seaB (seL wb s).1 = false ∧ Good wb s := by
  by_cases hE : elW wb (rI s).1 = true
  · have e : seL wb s = ([], (rI s).2, true) := by unfold seL; rw [if_pos hE]
    rw [e] at h
    exact absurd h.1 (by simp)
  · have hwb : wb = false := by cases wb; rfl; exact absurd (by unfold elW; rfl) hE
    subst hwb
    have e : seL false s = sesN (rI s).1.toNat false (rI s).2 := by unfold seL; rw [if_neg hE]
    rw [e] at h ⊢
    have h1 := sesN_ok h
    have h2 := rI_ok h1.1
    have hn : 0 ≤ (rI s).1 ∧ (rI s).1 ≤ 1024 := by
      unfold elW at hE
      simp at hE
      omega
    have hl := h1.2.2.2
    refine ⟨?_, ?_, rfl, h2.1⟩
    · unfold lwG
      rw [if_neg (by rw [hl]; omega), hl, h2.2, h1.2.1]
      have e : ((rI s).1.toNat : Int) = (rI s).1 := by omega
      rw [e, List.append_assoc]
      simp [encIs]
    · unfold seaB
      rw [if_neg (by rw [hl]; omega)]
      exact h1.2.2.1
theorem seL_enc (L : List SeT) (rest : List UInt8) (hw : seaB L = false) (h : ∀ x ∈ L, x.ok) : seL false (lwG SeT.bytes L ++ rest, 0) = (L, (rest, 0), false) := by
  have hl : L.length ≤ 1024 ∧ anyW L = false := by
    unfold seaB at hw
    split at hw
    · cases hw
    · exact ⟨by omega, hw⟩
  have e : lwG SeT.bytes L ++ rest = encI (L.length : Int) ++ (encG SeT.bytes L ++ rest) := by unfold lwG; rw [if_neg (by omega)]; simp [encIs]
  have h1 := rI_enc (L.length : Int) (encG SeT.bytes L ++ rest) (by omega)
  have hE : elW false (L.length : Int) = false := by unfold elW; simp; omega
  unfold seL
  rw [e, h1]
  simp only [hE, Bool.false_eq_true, if_false, Int.toNat_natCast]
  exact sesN_enc L rest hl.2 h
theorem seL_all (wb : Bool) (s : RS) : ∀ x ∈ (seL wb s).1, x.ok := by
  unfold seL
  split
  · intro x hx; cases hx
  · exact sesN_all _ _ _
end Cam
/- A state, read and written. No program in sight. -/
namespace Cam
open Go Go.RowKit Go.Proofs

theorem st_ok {s : RS} (h : Good (sW13 s) (sR13 s)) : s.1 = (stT s).bytes ++ (sR13 s).1 ∧ (stT s).bad = false ∧ s.2 = 0 := by
  have g13 := h
  have e12 := seL_ok (wb := sW12 s) (s := sR12 s) g13
  have g12 : Good (sW12 s) (sR12 s) := e12.2.2
  have e11 := code_BiT.list_ok (wb := sW11 s) (s := sR11 s) g12
  have g11 : Good (sW11 s) (sR11 s) := Good.list (rd := rdBiT) g12
  have e10 := code_CaT.list_ok (wb := sW10 s) (s := sR10 s) g11
  have g10 : Good (sW10 s) (sR10 s) := Good.list (rd := rdCaT) g11
  have e9 := code_PlT.list_ok (wb := sW9 s) (s := sR9 s) g10
  have g9 : Good (sW9 s) (sR9 s) := Good.list (rd := rdPlT) g10
  have e8 := code_BaT.list_ok (wb := sW8 s) (s := sR8 s) g9
  have g8 : Good (sW8 s) (sR8 s) := Good.list (rd := rdBaT) g9
  have e7 := rIs_ok (k := 1) (s := sR7 s) g8.2
  have g7 : Good (sW7 s) (sR7 s) := ⟨g8.1, e7.1⟩
  have c7 : [(stT s).la] = (rIs 1 (sR7 s)).1 := by
    have hl := rIs_len 1 (sR7 s)
    unfold stT
    simp only
    generalize (rIs 1 (sR7 s)).1 = L at hl
    match L, hl with
    | [x], _ => rfl
  have e6 := code_PoT.list_ok (wb := sW6 s) (s := sR6 s) g7
  have g6 : Good (sW6 s) (sR6 s) := Good.list (rd := rdPoT) g7
  have e5 := code_TrT.list_ok (wb := sW5 s) (s := sR5 s) g6
  have g5 : Good (sW5 s) (sR5 s) := Good.list (rd := rdTrT) g6
  have e4 := rIs_ok (k := 1) (s := sR4 s) g5.2
  have g4 : Good (sW4 s) (sR4 s) := ⟨g5.1, e4.1⟩
  have c4 : [(stT s).nx] = (rIs 1 (sR4 s)).1 := by
    have hl := rIs_len 1 (sR4 s)
    unfold stT
    simp only
    generalize (rIs 1 (sR4 s)).1 = L at hl
    match L, hl with
    | [x], _ => rfl
  have e3 := code_AsT.list_ok (wb := sW3 s) (s := sR3 s) g4
  have g3 : Good (sW3 s) (sR3 s) := Good.list (rd := rdAsT) g4
  have e2 := code_InT.list_ok (wb := sW2 s) (s := sR2 s) g3
  have g2 : Good (sW2 s) (sR2 s) := Good.list (rd := rdInT) g3
  have e1 := code_MbT.list_ok (wb := sW1 s) (s := sR1 s) g2
  have g1 : Good (sW1 s) (sR1 s) := Good.list (rd := rdMbT) g2
  have e0 := rIs_ok (k := 3) (s := sR0 s) g1.2
  have g0 : Good (sW0 s) (sR0 s) := ⟨g1.1, e0.1⟩
  have c0 : [(stT s).now, (stT s).day, (stT s).ph] = (rIs 3 (sR0 s)).1 := by
    have hl := rIs_len 3 (sR0 s)
    unfold stT
    simp only
    generalize (rIs 3 (sR0 s)).1 = L at hl
    match L, hl with
    | [x, y, z], _ => rfl
  refine ⟨?_, ?_, g0.2⟩
  · unfold StT.bytes rollB bookB
    rw [c0, c4, c7]
    show (sR0 s).1 = _
    rw [e0.2, show (rIs 3 (sR0 s)).2 = sR1 s from rfl]
    rw [e1.1, show (elL rdMbT (sW1 s) (sR1 s)).2 = sR2 s from rfl, show (elL rdMbT (sW1 s) (sR1 s)).1 = (stT s).M from rfl]
    rw [e2.1, show (elL rdInT (sW2 s) (sR2 s)).2 = sR3 s from rfl, show (elL rdInT (sW2 s) (sR2 s)).1 = (stT s).I from rfl]
    rw [e3.1, show (elL rdAsT (sW3 s) (sR3 s)).2 = sR4 s from rfl, show (elL rdAsT (sW3 s) (sR3 s)).1 = (stT s).A from rfl]
    rw [e4.2, show (rIs 1 (sR4 s)).2 = sR5 s from rfl]
    rw [e5.1, show (elL rdTrT (sW5 s) (sR5 s)).2 = sR6 s from rfl, show (elL rdTrT (sW5 s) (sR5 s)).1 = (stT s).T from rfl]
    rw [e6.1, show (elL rdPoT (sW6 s) (sR6 s)).2 = sR7 s from rfl, show (elL rdPoT (sW6 s) (sR6 s)).1 = (stT s).P from rfl]
    rw [e7.2, show (rIs 1 (sR7 s)).2 = sR8 s from rfl]
    rw [e8.1, show (elL rdBaT (sW8 s) (sR8 s)).2 = sR9 s from rfl, show (elL rdBaT (sW8 s) (sR8 s)).1 = (stT s).B from rfl]
    rw [e9.1, show (elL rdPlT (sW9 s) (sR9 s)).2 = sR10 s from rfl, show (elL rdPlT (sW9 s) (sR9 s)).1 = (stT s).G from rfl]
    rw [e10.1, show (elL rdCaT (sW10 s) (sR10 s)).2 = sR11 s from rfl, show (elL rdCaT (sW10 s) (sR10 s)).1 = (stT s).C from rfl]
    rw [e11.1, show (elL rdBiT (sW11 s) (sR11 s)).2 = sR12 s from rfl, show (elL rdBiT (sW11 s) (sR11 s)).1 = (stT s).D from rfl]
    rw [e12.1, show (seL (sW12 s) (sR12 s)).2.1 = sR13 s from rfl, show (seL (sW12 s) (sR12 s)).1 = (stT s).S from rfl]
    simp only [List.append_assoc]
    rfl
  · unfold StT.bad rollW bookW
    have d1 : decide (1024 < (stT s).M.length) = false := by have := e1.2; simp only [decide_eq_false_iff_not]; show ¬ 1024 < (elL rdMbT (sW1 s) (sR1 s)).1.length; omega
    have d2 : decide (1024 < (stT s).I.length) = false := by have := e2.2; simp only [decide_eq_false_iff_not]; show ¬ 1024 < (elL rdInT (sW2 s) (sR2 s)).1.length; omega
    have d3 : decide (1024 < (stT s).A.length) = false := by have := e3.2; simp only [decide_eq_false_iff_not]; show ¬ 1024 < (elL rdAsT (sW3 s) (sR3 s)).1.length; omega
    have d5 : decide (1024 < (stT s).T.length) = false := by have := e5.2; simp only [decide_eq_false_iff_not]; show ¬ 1024 < (elL rdTrT (sW5 s) (sR5 s)).1.length; omega
    have d6 : decide (1024 < (stT s).P.length) = false := by have := e6.2; simp only [decide_eq_false_iff_not]; show ¬ 1024 < (elL rdPoT (sW6 s) (sR6 s)).1.length; omega
    have d8 : decide (1024 < (stT s).B.length) = false := by have := e8.2; simp only [decide_eq_false_iff_not]; show ¬ 1024 < (elL rdBaT (sW8 s) (sR8 s)).1.length; omega
    have d9 : decide (1024 < (stT s).G.length) = false := by have := e9.2; simp only [decide_eq_false_iff_not]; show ¬ 1024 < (elL rdPlT (sW9 s) (sR9 s)).1.length; omega
    have d10 : decide (1024 < (stT s).C.length) = false := by have := e10.2; simp only [decide_eq_false_iff_not]; show ¬ 1024 < (elL rdCaT (sW10 s) (sR10 s)).1.length; omega
    have d11 : decide (1024 < (stT s).D.length) = false := by have := e11.2; simp only [decide_eq_false_iff_not]; show ¬ 1024 < (elL rdBiT (sW11 s) (sR11 s)).1.length; omega
    have d12 : seaB (stT s).S = false := e12.2.1
    rw [d1, d2, d3, d5, d6, d8, d9, d10, d11, d12]
    rfl
theorem st_enc (x : StT) (rest : List UInt8) (hw : x.bad = false) (h : x.ok) : stT (x.bytes ++ rest, 0) = x ∧ sR13 (x.bytes ++ rest, 0) = (rest, 0) ∧ sW13 (x.bytes ++ rest, 0) = false := by
  have hd : x.M.length ≤ 1024 ∧ x.I.length ≤ 1024 ∧ x.A.length ≤ 1024 ∧ x.T.length ≤ 1024 ∧ x.P.length ≤ 1024 ∧ x.B.length ≤ 1024 ∧ x.G.length ≤ 1024 ∧ x.C.length ≤ 1024 ∧ x.D.length ≤ 1024 ∧ seaB x.S = false := by
    unfold StT.bad rollW bookW at hw
    simp only [Bool.or_eq_false_iff, decide_eq_false_iff_not] at hw
    exact ⟨by omega, by omega, by omega, by omega, by omega, by omega, by omega, by omega, by omega, hw.2.2.2.2.2.2⟩
  obtain ⟨r12, hr12⟩ : ∃ r : List UInt8, r = lwG SeT.bytes x.S ++ rest := ⟨_, rfl⟩
  obtain ⟨r11, hr11⟩ : ∃ r : List UInt8, r = lwG (fun x : BiT => encIs x.ints) x.D ++ r12 := ⟨_, rfl⟩
  obtain ⟨r10, hr10⟩ : ∃ r : List UInt8, r = lwG (fun x : CaT => encIs x.ints) x.C ++ r11 := ⟨_, rfl⟩
  obtain ⟨r9, hr9⟩ : ∃ r : List UInt8, r = lwG (fun x : PlT => encIs x.ints) x.G ++ r10 := ⟨_, rfl⟩
  obtain ⟨r8, hr8⟩ : ∃ r : List UInt8, r = lwG (fun x : BaT => encIs x.ints) x.B ++ r9 := ⟨_, rfl⟩
  obtain ⟨r7, hr7⟩ : ∃ r : List UInt8, r = encIs [x.la] ++ r8 := ⟨_, rfl⟩
  obtain ⟨r6, hr6⟩ : ∃ r : List UInt8, r = lwG (fun x : PoT => encIs x.ints) x.P ++ r7 := ⟨_, rfl⟩
  obtain ⟨r5, hr5⟩ : ∃ r : List UInt8, r = lwG TrT.bytes x.T ++ r6 := ⟨_, rfl⟩
  obtain ⟨r4, hr4⟩ : ∃ r : List UInt8, r = encIs [x.nx] ++ r5 := ⟨_, rfl⟩
  obtain ⟨r3, hr3⟩ : ∃ r : List UInt8, r = lwG (fun x : AsT => encIs x.ints) x.A ++ r4 := ⟨_, rfl⟩
  obtain ⟨r2, hr2⟩ : ∃ r : List UInt8, r = lwG (fun x : InT => encIs x.ints) x.I ++ r3 := ⟨_, rfl⟩
  obtain ⟨r1, hr1⟩ : ∃ r : List UInt8, r = lwG (fun x : MbT => encIs x.ints) x.M ++ r2 := ⟨_, rfl⟩
  obtain ⟨r0, hr0⟩ : ∃ r : List UInt8, r = encIs [x.now, x.day, x.ph] ++ r1 := ⟨_, rfl⟩
  have hb : x.bytes ++ rest = r0 := by
    rw [hr0, hr1, hr2, hr3, hr4, hr5, hr6, hr7, hr8, hr9, hr10, hr11, hr12]
    unfold StT.bytes rollB bookB
    simp only [List.append_assoc]
    rfl
  rw [hb]
  obtain ⟨s, hs⟩ : ∃ s : RS, s = (r0, 0) := ⟨_, rfl⟩
  rw [← hs]
  have k0 : sR0 s = (r0, 0) ∧ sW0 s = false := ⟨hs, rfl⟩
  have f0 := rIs_enc [x.now, x.day, x.ph] r1 h.clock
  rw [← hr0, show ([x.now, x.day, x.ph] : List Int).length = 3 from rfl, ← k0.1] at f0
  have k1 : sR1 s = (r1, 0) ∧ sW1 s = false := ⟨by unfold sR1; rw [f0], k0.2⟩
  have f1 := code_MbT.list_enc x.M r2 hd.1 h.M
  rw [← hr1, ← k1.1] at f1
  have k2 : sR2 s = (r2, 0) ∧ sW2 s = false := ⟨by unfold sR2; rw [k1.2, f1.1], by unfold sW2; rw [k1.2]; exact f1.2⟩
  have f2 := code_InT.list_enc x.I r3 hd.2.1 h.I
  rw [← hr2, ← k2.1] at f2
  have k3 : sR3 s = (r3, 0) ∧ sW3 s = false := ⟨by unfold sR3; rw [k2.2, f2.1], by unfold sW3; rw [k2.2]; exact f2.2⟩
  have f3 := code_AsT.list_enc x.A r4 hd.2.2.1 h.A
  rw [← hr3, ← k3.1] at f3
  have k4 : sR4 s = (r4, 0) ∧ sW4 s = false := ⟨by unfold sR4; rw [k3.2, f3.1], by unfold sW4; rw [k3.2]; exact f3.2⟩
  have f4 := rIs_enc [x.nx] r5 h.nx
  rw [← hr4, show ([x.nx] : List Int).length = 1 from rfl, ← k4.1] at f4
  have k5 : sR5 s = (r5, 0) ∧ sW5 s = false := ⟨by unfold sR5; rw [f4], k4.2⟩
  have f5 := code_TrT.list_enc x.T r6 hd.2.2.2.1 h.T
  rw [← hr5, ← k5.1] at f5
  have k6 : sR6 s = (r6, 0) ∧ sW6 s = false := ⟨by unfold sR6; rw [k5.2, f5.1], by unfold sW6; rw [k5.2]; exact f5.2⟩
  have f6 := code_PoT.list_enc x.P r7 hd.2.2.2.2.1 h.P
  rw [← hr6, ← k6.1] at f6
  have k7 : sR7 s = (r7, 0) ∧ sW7 s = false := ⟨by unfold sR7; rw [k6.2, f6.1], by unfold sW7; rw [k6.2]; exact f6.2⟩
  have f7 := rIs_enc [x.la] r8 h.la
  rw [← hr7, show ([x.la] : List Int).length = 1 from rfl, ← k7.1] at f7
  have k8 : sR8 s = (r8, 0) ∧ sW8 s = false := ⟨by unfold sR8; rw [f7], k7.2⟩
  have f8 := code_BaT.list_enc x.B r9 hd.2.2.2.2.2.1 h.B
  rw [← hr8, ← k8.1] at f8
  have k9 : sR9 s = (r9, 0) ∧ sW9 s = false := ⟨by unfold sR9; rw [k8.2, f8.1], by unfold sW9; rw [k8.2]; exact f8.2⟩
  have f9 := code_PlT.list_enc x.G r10 hd.2.2.2.2.2.2.1 h.G
  rw [← hr9, ← k9.1] at f9
  have k10 : sR10 s = (r10, 0) ∧ sW10 s = false := ⟨by unfold sR10; rw [k9.2, f9.1], by unfold sW10; rw [k9.2]; exact f9.2⟩
  have f10 := code_CaT.list_enc x.C r11 hd.2.2.2.2.2.2.2.1 h.C
  rw [← hr10, ← k10.1] at f10
  have k11 : sR11 s = (r11, 0) ∧ sW11 s = false := ⟨by unfold sR11; rw [k10.2, f10.1], by unfold sW11; rw [k10.2]; exact f10.2⟩
  have f11 := code_BiT.list_enc x.D r12 hd.2.2.2.2.2.2.2.2.1 h.D
  rw [← hr11, ← k11.1] at f11
  have k12 : sR12 s = (r12, 0) ∧ sW12 s = false := ⟨by unfold sR12; rw [k11.2, f11.1], by unfold sW12; rw [k11.2]; exact f11.2⟩
  have f12 := seL_enc x.S rest hd.2.2.2.2.2.2.2.2.2 h.S
  rw [← hr12, ← k12.1] at f12
  have k13 : sR13 s = (rest, 0) ∧ sW13 s = false := ⟨by unfold sR13; rw [k12.2, f12], by unfold sW13; rw [k12.2, f12]⟩
  refine ⟨?_, k13.1, k13.2⟩
  unfold stT
  rw [f0, f4, f7]
  rw [k1.2, k2.2, k3.2, k5.2, k6.2, k8.2, k9.2, k10.2, k11.2, k12.2]
  rw [f1.1, f2.1, f3.1, f5.1, f6.1, f8.1, f9.1, f10.1, f11.1, f12]
  rfl
theorem st_all (s : RS) : (stT s).ok where
  clock := by have hl := rIs_len 3 (sR0 s); have hr := rIs_range 3 (sR0 s); unfold stT; simp only; generalize (rIs 3 (sR0 s)).1 = L at hl hr; match L, hl, hr with | [x, y, z], _, hr => exact hr
  M := code_MbT.list_all _ _
  I := code_InT.list_all _ _
  A := code_AsT.list_all _ _
  nx := by have hl := rIs_len 1 (sR4 s); have hr := rIs_range 1 (sR4 s); unfold stT; simp only; generalize (rIs 1 (sR4 s)).1 = L at hl hr; match L, hl, hr with | [x], _, hr => exact hr
  T := code_TrT.list_all _ _
  P := code_PoT.list_all _ _
  la := by have hl := rIs_len 1 (sR7 s); have hr := rIs_range 1 (sR7 s); unfold stT; simp only; generalize (rIs 1 (sR7 s)).1 = L at hl hr; match L, hl, hr with | [x], _, hr => exact hr
  B := code_BaT.list_all _ _
  G := code_PlT.list_all _ _
  C := code_CaT.list_all _ _
  D := code_BiT.list_all _ _
  S := seL_all _ _
theorem rD_nil {s : RS} (h : rD s = 0) : s.2 = 0 ∧ s.1 = [] := by
  have h0 := rD_zero h
  refine ⟨h0, ?_⟩
  unfold rD at h
  rw [if_pos h0] at h
  split at h
  · next hl => exact List.eq_nil_of_length_eq_zero hl
  · exact absurd h (by decide)
theorem dE_good {wb : Bool} {s : RS} (h : dE wb s = 0) : Good wb s ∧ s.1 = [] := by
  have h1 := dE_zero.1 h
  have h2 := rD_nil h1.2
  exact ⟨⟨h1.1, h2.1⟩, h2.2⟩
theorem dE_end (l : List UInt8) : dE false (l, 0) = 0 ↔ l = [] := by
  rw [dE_zero]
  constructor
  · intro h
    exact (rD_nil h.2).2
  · rintro rfl
    exact ⟨rfl, rfl⟩
/-- what ReadState answers -/
theorem readSt_ok {l : List UInt8} (h : (readSt l).2 = 0) : l = (readSt l).1.bytes ∧ (readSt l).1.bad = false ∧ l.length ≤ 65536 := by
  unfold readSt at h ⊢
  split at h
  · cases h
  · next hl =>
    split at h
    · next hd =>
      rw [if_neg hl, if_pos hd]
      have hg := dE_good hd
      have h1 := st_ok hg.1
      refine ⟨?_, h1.2.1, by omega⟩
      have h2 := h1.1
      rw [show (sR13 (l, 0)).1 = [] from hg.2, List.append_nil] at h2
      exact h2
    · cases h
theorem readSt_enc (x : StT) (hw : x.bad = false) (h : x.ok) (hl : x.bytes.length ≤ 65536) : readSt x.bytes = (x, 0) := by
  have h1 := st_enc x [] hw h
  rw [List.append_nil] at h1
  unfold readSt
  rw [if_neg (by omega), if_pos (by show dE (sW13 (x.bytes, 0)) (sR13 (x.bytes, 0)) = 0; rw [h1.2.1, h1.2.2]; rfl)]
  show (stT (x.bytes, 0), (0 : Int)) = _
  rw [h1.1]
theorem st_zero_ok : StT.zero.ok := by constructor <;> (intro x hx; first | (simp [StT.zero] at hx; done) | (simp [StT.zero] at hx; omega))
theorem readSt_all (l : List UInt8) : (readSt l).1.ok := by
  unfold readSt
  split
  · exact st_zero_ok
  · split
    · exact st_all _
    · exact st_zero_ok
theorem readSt_two (l : List UInt8) : (readSt l).2 = 0 ∨ (readSt l).2 = 6 := by
  unfold readSt
  split
  · exact .inr rfl
  · split
    · exact .inl rfl
    · exact .inr rfl
/-- a strict beginning of what was written can't be read; nor what has more -/
theorem readSt_cut {x : StT} {p q : List UInt8} (hw : x.bad = false) (h : x.ok) (e : x.bytes = p ++ q) (hq : q ≠ []) : (readSt p).2 = 6 := by
  rcases readSt_two p with h0 | h0
  · have h1 := readSt_ok h0
    have h2 := st_enc (readSt p).1 q h1.2.1 (readSt_all p)
    rw [← h1.1, ← e] at h2
    have h3 := st_enc x [] hw h
    rw [List.append_nil, h2.2.1] at h3
    exact absurd (congrArg Prod.fst h3.2.1) hq
  · exact h0
theorem readSt_more {x : StT} {q : List UInt8} (hw : x.bad = false) (h : x.ok) (hq : q ≠ []) : (readSt (x.bytes ++ q)).2 = 6 := by
  have h2 := st_enc x q hw h
  unfold readSt
  split
  · rfl
  · rw [if_neg]
    show dE (sW13 _) (sR13 _) ≠ 0
    rw [h2.2.1, h2.2.2]
    intro h
    exact hq ((dE_end q).1 h)
theorem readRp_ok {l : List UInt8} (h : (readRp l).2 = 0) : l = (readRp l).1.bytes ∧ repW (readRp l).1.D (readRp l).1.F = false ∧ l.length ≤ 65536 := by
  unfold readRp at h ⊢
  split at h
  · cases h
  · next hl =>
    split at h
    · next hd =>
      rw [if_neg hl, if_pos hd]
      have hg := dE_good hd
      have h1 := rep_ok hg.1
      refine ⟨?_, h1.2, by omega⟩
      have h2 := h1.1
      rw [hg.2, List.append_nil] at h2
      exact h2
    · cases h
theorem readRp_enc (x : RepT) (hw : repW x.D x.F = false) (h : x.ok) (hl : x.bytes.length ≤ 65536) : readRp x.bytes = (x, 0) := by
  have h1 := rep_enc x [] hw h
  rw [List.append_nil] at h1
  unfold readRp
  rw [if_neg (by omega), if_pos (by rw [h1.2.1, h1.2.2]; rfl), h1.1]
theorem readRp_01 (l : List UInt8) : (readRp l).2 = 0 ∨ (readRp l).2 = 6 := by
  unfold readRp
  split
  · exact .inr rfl
  · split
    · exact .inl rfl
    · exact .inr rfl
theorem readRp_all (l : List UInt8) : (readRp l).1.ok := by
  have h0 : RepT.zero.ok := And.intro (by intro x hx; simp [RepT.zero] at hx; omega) (And.intro (fun x hx => by cases hx) (fun x hx => by cases hx))
  unfold readRp
  split
  · exact h0
  · split
    · exact rep_all _ _
    · exact h0
theorem readC_ok {l : List UInt8} (h : (readC l).2 = 0) : l = encIs (readC l).1 := by
  unfold readC at h ⊢
  split at h
  · cases h
  · next hl =>
    split at h
    · next hd =>
      rw [if_neg hl, if_pos hd]
      have hg := rD_nil hd
      have h1 := rIs_ok hg.1
      have h2 := h1.2
      rw [hg.2, List.append_nil] at h2
      exact h2
    · cases h
theorem readC_all (l : List UInt8) : okI (readC l).1 := by
  have h0 : okI zs17 := by intro x hx; rw [List.eq_of_mem_replicate hx]; decide
  unfold readC
  split
  · exact h0
  · split
    · exact rIs_range _ _
    · exact h0
theorem readC_enc (xs : List Int) (hl : xs.length = 17) (h : okI xs) : readC (encIs xs) = (xs, 0) := by
  have h1 := rIs_enc xs [] h
  have h2 := encIs_length xs h
  rw [List.append_nil, hl] at h1
  unfold readC
  rw [if_neg (by omega), if_pos (by rw [h1]; rfl), h1]
theorem readC_cut {xs : List Int} {p q : List UInt8} (hl : xs.length = 17) (h : okI xs) (e : encIs xs = p ++ q) (hq : q ≠ []) : (readC p).2 = 6 := by
  rcases readC_two p with h0 | h0
  · have h1 := readC_ok h0
    have h2 := rIs_enc (readC p).1 q (readC_all p)
    rw [readC_len, ← h1, ← e] at h2
    have h3 := rIs_enc xs [] h
    rw [List.append_nil, hl, h2] at h3
    exact absurd (congrArg (fun z => z.2.1) h3) hq
  · exact h0
theorem readC_more {xs : List Int} {q : List UInt8} (hl : xs.length = 17) (h : okI xs) (hq : q ≠ []) : (readC (encIs xs ++ q)).2 = 6 := by
  have h2 := rIs_enc xs q h
  rw [hl] at h2
  unfold readC
  split
  · rfl
  · rw [if_neg]
    rw [h2]
    intro h
    exact hq (rD_nil h).2
end Cam
