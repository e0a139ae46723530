import Derived.Test.YtgeclnjkkjmbaaaGreatOpenRz
import Derived.Test.YtgeclnjkkjmbaaaGreatVe
/- states as arguments. -/
namespace Cam
open Go Go.RowKit Go.Proofs Go.ChangeShapes Go.WideShapes Go.ChangeAt
set_option linter.unusedVariables false
set_option linter.unusedSimpArgs false
set_option maxRecDepth 100000
set_option maxHeartbeats 1600000
theorem rows_ofP {α : Type} {enc : α → List Value} {Q : α → Prop} : ∀ {css : List (List Value)}, (∀ c ∈ css, ∃ x : α, c = enc x ∧ Q x) → ∃ l : List α, css.flatten = flatW enc l ∧ css.length = l.length ∧ ∀ x ∈ l, Q x
 | [], _ => ⟨[], rfl, rfl, by simp⟩
 | c :: css, h => by
  obtain ⟨f, rfl, hf⟩ := h c (by simp)
  obtain ⟨l, h1, h2, h3⟩ := rows_ofP (enc := enc) (Q := Q) (css := css) (fun c hc => h c (by simp [hc]))
  refine ⟨f :: l, by rw [List.flatten_cons, h1]; rfl, by simp [h2], fun x hx => ?_⟩
  rcases List.mem_cons.1 hx with rfl | hx
  ·
   exact hf
  ·
   exact h3 x hx
theorem int_cell {u : Value} (h : Nums [u]) : ∃ n, u = .int .i64 n ∧ okI [n] := by
 obtain ⟨n, e, w⟩ := h.at (j := 0) (by simp)
 simp at e
 exact ⟨n, e, fun m hm => by rw [List.mem_singleton] at hm; rw [hm]; exact w⟩
theorem opens_Key : Opens Tryz.prog 96 (fun _ cs => cs.length = Tryz.prog.cellsOf 96 ∧ Nums cs) :=
 Opens.nums_struct Tryz.underlying96 (by
  intro i f hf
  have hm := Array.mem_of_getElem? hf
  simp only [List.mem_toArray, List.mem_cons, List.not_mem_nil, or_false] at hm
  rcases hm with rfl | rfl
  all_goals exact Opens.nums_int Tryz.underlying3) (by kernel_rfl)
theorem opens_Acct : Opens Tryz.prog 100 (fun _ cs => cs.length = Tryz.prog.cellsOf 100 ∧ Nums cs) :=
 Opens.nums_struct Tryz.underlying100 (by
  intro i f hf
  have hm := Array.mem_of_getElem? hf
  simp only [List.mem_toArray, List.mem_cons, List.not_mem_nil, or_false] at hm
  rcases hm with rfl | rfl | rfl
  all_goals exact Opens.nums_int Tryz.underlying3) (by kernel_rfl)
theorem opens_Clock : Opens Tryz.prog 23 (fun _ cs => cs.length = Tryz.prog.cellsOf 23 ∧ Nums cs) :=
 Opens.nums_struct Tryz.underlying23 (by
  intro i f hf
  have hm := Array.mem_of_getElem? hf
  simp only [List.mem_toArray, List.mem_cons, List.not_mem_nil, or_false] at hm
  rcases hm with rfl | rfl | rfl
  all_goals exact Opens.nums_int Tryz.underlying3) (by kernel_rfl)
theorem opens_Member : Opens Tryz.prog 86 (fun _ cs => cs.length = Tryz.prog.cellsOf 86 ∧ Nums cs) :=
 Opens.nums_struct Tryz.underlying86 (by
  intro i f hf
  have hm := Array.mem_of_getElem? hf
  simp only [List.mem_toArray, List.mem_cons, List.not_mem_nil, or_false] at hm
  rcases hm with rfl | rfl | rfl
  all_goals exact Opens.nums_int Tryz.underlying3) (by kernel_rfl)
theorem opens_Inst : Opens Tryz.prog 88 (fun _ cs => cs.length = Tryz.prog.cellsOf 88 ∧ Nums cs) :=
 Opens.nums_struct Tryz.underlying88 (by
  intro i f hf
  have hm := Array.mem_of_getElem? hf
  simp only [List.mem_toArray, List.mem_cons, List.not_mem_nil, or_false] at hm
  rcases hm with rfl | rfl | rfl | rfl | rfl | rfl | rfl
  case inr.inr.inr.inr.inr.inr => exact Opens.nums_array Tryz.underlying57 (by kernel_rfl) (by kernel_rfl) Tryz.underlying3
  all_goals exact Opens.nums_int Tryz.underlying3) (by kernel_rfl)
theorem opens_Asset : Opens Tryz.prog 91 (fun _ cs => cs.length = Tryz.prog.cellsOf 91 ∧ Nums cs) :=
 Opens.nums_struct Tryz.underlying91 (by
  intro i f hf
  have hm := Array.mem_of_getElem? hf
  simp only [List.mem_toArray, List.mem_cons, List.not_mem_nil, or_false] at hm
  rcases hm with rfl | rfl | rfl | rfl
  all_goals exact Opens.nums_int Tryz.underlying3) (by kernel_rfl)
theorem opens_Pledge : Opens Tryz.prog 104 (fun _ cs => cs.length = Tryz.prog.cellsOf 104 ∧ Nums cs) :=
 Opens.nums_struct Tryz.underlying104 (by
  intro i f hf
  have hm := Array.mem_of_getElem? hf
  simp only [List.mem_toArray, List.mem_cons, List.not_mem_nil, or_false] at hm
  rcases hm with rfl | rfl | rfl
  all_goals exact Opens.nums_int Tryz.underlying3) (by kernel_rfl)
theorem opens_Due : Opens Tryz.prog 106 (fun _ cs => cs.length = Tryz.prog.cellsOf 106 ∧ Nums cs) := opens_due
theorem opens_Pos : Opens Tryz.prog 98 (fun _ cs => cs.length = Tryz.prog.cellsOf 98 ∧ Nums cs) :=
 Opens.nums_struct Tryz.underlying98 (by
  intro i f hf
  have hm := Array.mem_of_getElem? hf
  simp only [List.mem_toArray, List.mem_cons, List.not_mem_nil, or_false] at hm
  rcases hm with rfl | rfl | rfl
  case inl => exact opens_Key.mono (fun _ _ h => h.2)
  all_goals exact Opens.nums_int Tryz.underlying3) (by kernel_rfl)
theorem opens_Balance : Opens Tryz.prog 102 (fun _ cs => cs.length = Tryz.prog.cellsOf 102 ∧ Nums cs) :=
 Opens.nums_struct Tryz.underlying102 (by
  intro i f hf
  have hm := Array.mem_of_getElem? hf
  simp only [List.mem_toArray, List.mem_cons, List.not_mem_nil, or_false] at hm
  rcases hm with rfl | rfl
  case inl => exact opens_Acct.mono (fun _ _ h => h.2)
  all_goals exact Opens.nums_int Tryz.underlying3) (by kernel_rfl)
theorem opens_Call : Opens Tryz.prog 108 (fun _ cs => cs.length = Tryz.prog.cellsOf 108 ∧ Nums cs) :=
 Opens.nums_struct Tryz.underlying108 (by
  intro i f hf
  have hm := Array.mem_of_getElem? hf
  simp only [List.mem_toArray, List.mem_cons, List.not_mem_nil, or_false] at hm
  rcases hm with rfl | rfl
  case inl => exact opens_Due.mono (fun _ _ h => h.2)
  all_goals exact Opens.nums_int Tryz.underlying3) (by kernel_rfl)
theorem opens_Bid : Opens Tryz.prog 110 (fun _ cs => cs.length = Tryz.prog.cellsOf 110 ∧ Nums cs) :=
 Opens.nums_struct Tryz.underlying110 (by
  intro i f hf
  have hm := Array.mem_of_getElem? hf
  simp only [List.mem_toArray, List.mem_cons, List.not_mem_nil, or_false] at hm
  rcases hm with rfl | rfl | rfl | rfl
  case inl => exact opens_Key.mono (fun _ _ h => h.2)
  all_goals exact Opens.nums_int Tryz.underlying3) (by kernel_rfl)
theorem opens_Trade : Opens Tryz.prog 93 (fun _ cs => ∃ x : TrT, cs = x.vs ∧ okI x.ints) :=
 (Opens.struct (Q := fun i _ cs => if i = 6 then ∃ b, cs = [.bool b] else Nums cs) Tryz.underlying93 (by
  intro i f hf
  match i, hf with
  | 0, hf | 1, hf | 2, hf | 3, hf | 4, hf | 5, hf => simp at hf; subst hf; exact Opens.nums_int Tryz.underlying3
  | 6, hf => simp at hf; subst hf; exact Opens.bool Tryz.underlying4
  | i + 7, hf => simp at hf)).mono fun w cs ⟨hl, hq⟩ => by
  have hc : Tryz.prog.cellsOf 93 = 7 := by kernel_rfl
  have c1 : Tryz.prog.cellsOf 3 = 1 := by kernel_rfl
  have c2 : Tryz.prog.cellsOf 4 = 1 := by kernel_rfl
  rw [hc] at hl
  match cs, hl with
  | [u0, u1, u2, u3, u4, u5, u6], _ =>
   have h0 := hq 0 _ rfl
   have h1 := hq 1 _ rfl
   have h2 := hq 2 _ rfl
   have h3 := hq 3 _ rfl
   have h4 := hq 4 _ rfl
   have h5 := hq 5 _ rfl
   have h6 := hq 6 _ rfl
   simp [c1, c2, -Bool.exists_bool] at h0 h1 h2 h3 h4 h5 h6
   obtain ⟨n0, rfl, w0⟩ := int_cell h0
   obtain ⟨n1, rfl, w1⟩ := int_cell h1
   obtain ⟨n2, rfl, w2⟩ := int_cell h2
   obtain ⟨n3, rfl, w3⟩ := int_cell h3
   obtain ⟨n4, rfl, w4⟩ := int_cell h4
   obtain ⟨n5, rfl, w5⟩ := int_cell h5
   obtain ⟨b, rfl⟩ := h6
   refine ⟨⟨n0, n1, n2, n3, n4, n5, b⟩, rfl, fun m hm => ?_⟩
   simp only [TrT.ints, List.mem_cons, List.not_mem_nil, or_false] at hm
   rcases hm with rfl | rfl | rfl | rfl | rfl | rfl
   ·
    exact w0 _ (by simp)
   ·
    exact w1 _ (by simp)
   ·
    exact w2 _ (by simp)
   ·
    exact w3 _ (by simp)
   ·
    exact w4 _ (by simp)
   ·
    exact w5 _ (by simp)
theorem MbT.of {c : List Value} (hl : c.length = 3) (h : Nums c) : ∃ x : MbT, c = x.vs ∧ okI x.ints := by
 obtain ⟨L, rfl, hL⟩ := h
 rw [List.length_map] at hl
 match L, hl with
 | [x0, x1, x2], _ => exact ⟨⟨x0, x1, x2⟩, rfl, hL⟩
theorem opens_Members : Opens Tryz.prog 24 (fun w cs => ∃ v L, cs = [v] ∧ Rs MbT.vs 3 w v L ∧ ∀ x ∈ L, okI x.ints) :=
 (Opens.slice Tryz.underlying24 (size := 3) (by kernel_rfl) rfl opens_Member).mono fun w cs ⟨v, css, h2, _, h4, h5⟩ => by
  obtain ⟨L, e1, e2, e3⟩ := rows_of (enc := MbT.vs) (ints := MbT.ints) (fun c hc => MbT.of (by rw [(h5 c hc).2.1]; kernel_rfl) (h5 c hc).2.2)
  rw [e1, e2] at h4
  exact ⟨v, L, h2, ⟨fun _ => rfl, h4⟩, e3⟩
theorem InT.of {c : List Value} (hl : c.length = 12) (h : Nums c) : ∃ x : InT, c = x.vs ∧ okI x.ints := by
 obtain ⟨L, rfl, hL⟩ := h
 rw [List.length_map] at hl
 match L, hl with
 | [x0, x1, x2, x3, x4, x5, x6, x7, x8, x9, x10, x11], _ => exact ⟨⟨x0, x1, x2, x3, x4, x5, x6, x7, x8, x9, x10, x11⟩, rfl, hL⟩
theorem opens_Insts : Opens Tryz.prog 25 (fun w cs => ∃ v L, cs = [v] ∧ Rs InT.vs 12 w v L ∧ ∀ x ∈ L, okI x.ints) :=
 (Opens.slice Tryz.underlying25 (size := 12) (by kernel_rfl) rfl opens_Inst).mono fun w cs ⟨v, css, h2, _, h4, h5⟩ => by
  obtain ⟨L, e1, e2, e3⟩ := rows_of (enc := InT.vs) (ints := InT.ints) (fun c hc => InT.of (by rw [(h5 c hc).2.1]; kernel_rfl) (h5 c hc).2.2)
  rw [e1, e2] at h4
  exact ⟨v, L, h2, ⟨fun _ => rfl, h4⟩, e3⟩
theorem AsT.of {c : List Value} (hl : c.length = 4) (h : Nums c) : ∃ x : AsT, c = x.vs ∧ okI x.ints := by
 obtain ⟨L, rfl, hL⟩ := h
 rw [List.length_map] at hl
 match L, hl with
 | [x0, x1, x2, x3], _ => exact ⟨⟨x0, x1, x2, x3⟩, rfl, hL⟩
theorem opens_Assets : Opens Tryz.prog 26 (fun w cs => ∃ v L, cs = [v] ∧ Rs AsT.vs 4 w v L ∧ ∀ x ∈ L, okI x.ints) :=
 (Opens.slice Tryz.underlying26 (size := 4) (by kernel_rfl) rfl opens_Asset).mono fun w cs ⟨v, css, h2, _, h4, h5⟩ => by
  obtain ⟨L, e1, e2, e3⟩ := rows_of (enc := AsT.vs) (ints := AsT.ints) (fun c hc => AsT.of (by rw [(h5 c hc).2.1]; kernel_rfl) (h5 c hc).2.2)
  rw [e1, e2] at h4
  exact ⟨v, L, h2, ⟨fun _ => rfl, h4⟩, e3⟩
theorem opens_Trades : Opens Tryz.prog 29 (fun w cs => ∃ v L, cs = [v] ∧ Rs TrT.vs 7 w v L ∧ ∀ x ∈ L, okI x.ints) :=
 (Opens.slice Tryz.underlying29 (size := 7) (by kernel_rfl) rfl opens_Trade).mono fun w cs ⟨v, css, h2, _, h4, h5⟩ => by
  obtain ⟨L, e1, e2, e3⟩ := rows_of (enc := TrT.vs) (ints := TrT.ints) (fun c hc => (h5 c hc).2)
  rw [e1, e2] at h4
  exact ⟨v, L, h2, ⟨fun _ => rfl, h4⟩, e3⟩
theorem PoT.of {c : List Value} (hl : c.length = 4) (h : Nums c) : ∃ x : PoT, c = x.vs ∧ okI x.ints := by
 obtain ⟨L, rfl, hL⟩ := h
 rw [List.length_map] at hl
 match L, hl with
 | [x0, x1, x2, x3], _ => exact ⟨⟨x0, x1, x2, x3⟩, rfl, hL⟩
theorem opens_Poss : Opens Tryz.prog 30 (fun w cs => ∃ v L, cs = [v] ∧ Rs PoT.vs 4 w v L ∧ ∀ x ∈ L, okI x.ints) :=
 (Opens.slice Tryz.underlying30 (size := 4) (by kernel_rfl) rfl opens_Pos).mono fun w cs ⟨v, css, h2, _, h4, h5⟩ => by
  obtain ⟨L, e1, e2, e3⟩ := rows_of (enc := PoT.vs) (ints := PoT.ints) (fun c hc => PoT.of (by rw [(h5 c hc).2.1]; kernel_rfl) (h5 c hc).2.2)
  rw [e1, e2] at h4
  exact ⟨v, L, h2, ⟨fun _ => rfl, h4⟩, e3⟩
theorem BaT.of {c : List Value} (hl : c.length = 4) (h : Nums c) : ∃ x : BaT, c = x.vs ∧ okI x.ints := by
 obtain ⟨L, rfl, hL⟩ := h
 rw [List.length_map] at hl
 match L, hl with
 | [x0, x1, x2, x3], _ => exact ⟨⟨x0, x1, x2, x3⟩, rfl, hL⟩
theorem opens_Balances : Opens Tryz.prog 33 (fun w cs => ∃ v L, cs = [v] ∧ Rs BaT.vs 4 w v L ∧ ∀ x ∈ L, okI x.ints) :=
 (Opens.slice Tryz.underlying33 (size := 4) (by kernel_rfl) rfl opens_Balance).mono fun w cs ⟨v, css, h2, _, h4, h5⟩ => by
  obtain ⟨L, e1, e2, e3⟩ := rows_of (enc := BaT.vs) (ints := BaT.ints) (fun c hc => BaT.of (by rw [(h5 c hc).2.1]; kernel_rfl) (h5 c hc).2.2)
  rw [e1, e2] at h4
  exact ⟨v, L, h2, ⟨fun _ => rfl, h4⟩, e3⟩
theorem PlT.of {c : List Value} (hl : c.length = 3) (h : Nums c) : ∃ x : PlT, c = x.vs ∧ okI x.ints := by
 obtain ⟨L, rfl, hL⟩ := h
 rw [List.length_map] at hl
 match L, hl with
 | [x0, x1, x2], _ => exact ⟨⟨x0, x1, x2⟩, rfl, hL⟩
theorem opens_Pledges : Opens Tryz.prog 36 (fun w cs => ∃ v L, cs = [v] ∧ Rs PlT.vs 3 w v L ∧ ∀ x ∈ L, okI x.ints) :=
 (Opens.slice Tryz.underlying36 (size := 3) (by kernel_rfl) rfl opens_Pledge).mono fun w cs ⟨v, css, h2, _, h4, h5⟩ => by
  obtain ⟨L, e1, e2, e3⟩ := rows_of (enc := PlT.vs) (ints := PlT.ints) (fun c hc => PlT.of (by rw [(h5 c hc).2.1]; kernel_rfl) (h5 c hc).2.2)
  rw [e1, e2] at h4
  exact ⟨v, L, h2, ⟨fun _ => rfl, h4⟩, e3⟩
theorem CaT.of {c : List Value} (hl : c.length = 4) (h : Nums c) : ∃ x : CaT, c = x.vs ∧ okI x.ints := by
 obtain ⟨L, rfl, hL⟩ := h
 rw [List.length_map] at hl
 match L, hl with
 | [x0, x1, x2, x3], _ => exact ⟨⟨x0, x1, x2, x3⟩, rfl, hL⟩
theorem opens_Calls : Opens Tryz.prog 37 (fun w cs => ∃ v L, cs = [v] ∧ Rs CaT.vs 4 w v L ∧ ∀ x ∈ L, okI x.ints) :=
 (Opens.slice Tryz.underlying37 (size := 4) (by kernel_rfl) rfl opens_Call).mono fun w cs ⟨v, css, h2, _, h4, h5⟩ => by
  obtain ⟨L, e1, e2, e3⟩ := rows_of (enc := CaT.vs) (ints := CaT.ints) (fun c hc => CaT.of (by rw [(h5 c hc).2.1]; kernel_rfl) (h5 c hc).2.2)
  rw [e1, e2] at h4
  exact ⟨v, L, h2, ⟨fun _ => rfl, h4⟩, e3⟩
theorem BiT.of {c : List Value} (hl : c.length = 5) (h : Nums c) : ∃ x : BiT, c = x.vs ∧ okI x.ints := by
 obtain ⟨L, rfl, hL⟩ := h
 rw [List.length_map] at hl
 match L, hl with
 | [x0, x1, x2, x3, x4], _ => exact ⟨⟨x0, x1, x2, x3, x4⟩, rfl, hL⟩
theorem opens_Bids : Opens Tryz.prog 38 (fun w cs => ∃ v L, cs = [v] ∧ Rs BiT.vs 5 w v L ∧ ∀ x ∈ L, okI x.ints) :=
 (Opens.slice Tryz.underlying38 (size := 5) (by kernel_rfl) rfl opens_Bid).mono fun w cs ⟨v, css, h2, _, h4, h5⟩ => by
  obtain ⟨L, e1, e2, e3⟩ := rows_of (enc := BiT.vs) (ints := BiT.ints) (fun c hc => BiT.of (by rw [(h5 c hc).2.1]; kernel_rfl) (h5 c hc).2.2)
  rw [e1, e2] at h4
  exact ⟨v, L, h2, ⟨fun _ => rfl, h4⟩, e3⟩
theorem opens_Seat : Opens Tryz.prog 76 (fun w cs => ∃ x : SV, cs = x.vs ∧ ∃ s : SeT, SVok w x s ∧ s.ok) :=
 (Opens.struct (Q := fun i w cs => if i = 2 then ReplyCells w cs else Nums cs) Tryz.underlying76 (by
  intro i f hf
  match i, hf with
  | 0, hf | 1, hf => simp at hf; subst hf; exact Opens.nums_int Tryz.underlying3
  | 2, hf => simp at hf; subst hf; exact opens_reply
  | i + 3, hf => simp at hf)).mono fun w cs ⟨hl, hq⟩ => by
  have hc : Tryz.prog.cellsOf 76 = 7 := by kernel_rfl
  have c1 : Tryz.prog.cellsOf 3 = 1 := by kernel_rfl
  have c2 : Tryz.prog.cellsOf 63 = 5 := by kernel_rfl
  rw [hc] at hl
  match cs, hl with
  | [u0, u1, u2, u3, u4, u5, u6], _ =>
   have h0 := hq 0 _ rfl
   have h1 := hq 1 _ rfl
   have h2 := hq 2 _ rfl
   simp [c1, c2] at h0 h1 h2
   obtain ⟨n0, rfl, w0⟩ := int_cell h0
   obtain ⟨n1, rfl, w1⟩ := int_cell h1
   obtain ⟨xc, xn, xa, vd, vf, D, F, e, k1, k2, k3, k4, k5⟩ := h2
   obtain ⟨a1, c1, rfl, _, _⟩ := k2.shape
   obtain ⟨a2, c2, rfl, _, _⟩ := k3.shape
   simp only [List.cons.injEq, and_true] at e
   obtain ⟨rfl, rfl, rfl, rfl, rfl⟩ := e
   refine ⟨⟨n0, n1, xc, xn, xa, a1, _, c1, a2, _, c2⟩, rfl, ⟨n0, n1, ⟨xc, xn, xa, D, F⟩⟩, ⟨rfl, rfl, rfl, rfl, rfl, k2, k3⟩, fun m hm => ?_, k1, k4, k5⟩
   simp only [List.mem_cons, List.not_mem_nil, or_false] at hm
   rcases hm with rfl | rfl
   ·
    exact w0 _ (by simp)
   ·
    exact w1 _ (by simp)
theorem seats_of {w : World} : ∀ {l : List SV}, (∀ x ∈ l, ∃ s : SeT, SVok w x s ∧ s.ok) → ∃ M : List SeT, l.length = M.length ∧ (∀ i (h : i < l.length) (h' : i < M.length), SVok w l[i] M[i]) ∧ ∀ x ∈ M, x.ok
 | [], _ => ⟨[], rfl, fun i h => by simp at h, by simp⟩
 | x :: l, h => by
  obtain ⟨s, h1, h2⟩ := h x (by simp)
  obtain ⟨M, k1, k2, k3⟩ := seats_of (l := l) (fun y hy => h y (by simp [hy]))
  refine ⟨s :: M, by simp [k1], fun i h h' => ?_, fun y hy => ?_⟩
  ·
   cases i with
   | zero => exact h1
   | succ i => exact k2 i (by simpa using h) (by simpa using h')
  ·
   rcases List.mem_cons.1 hy with rfl | hy
   ·
    exact h2
   ·
    exact k3 y hy
theorem opens_Seats : Opens Tryz.prog 39 (fun w cs => ∃ (v : Value) (L : List SV) (M : List SeT), cs = [v] ∧ Rs SV.vs 7 w v L ∧ L.length = M.length ∧ (∀ i (h : i < L.length) (h' : i < M.length), SVok w L[i] M[i]) ∧ ∀ x ∈ M, x.ok) :=
 (Opens.slice Tryz.underlying39 (size := 7) (by kernel_rfl) rfl opens_Seat).mono fun w cs ⟨v, css, h2, _, h4, h5⟩ => by
  obtain ⟨L, e1, e2, e3⟩ := rows_ofP (enc := SV.vs) (Q := fun x => ∃ s : SeT, SVok w x s ∧ s.ok) (fun c hc => (h5 c hc).2)
  obtain ⟨M, m1, m2, m3⟩ := seats_of e3
  rw [e1, e2] at h4
  exact ⟨v, L, M, h2, ⟨fun _ => rfl, h4⟩, m1, m2, m3⟩
theorem opens_Roll : Opens Tryz.prog 28 (fun w cs => ∃ aM nM cM aI nI cI aA nA cA LM LI LA, cs = [.slice aM nM cM, .slice aI nI cI, .slice aA nA cA] ∧ Rs MbT.vs 3 w (.slice aM nM cM) LM ∧ (∀ x ∈ LM, okI x.ints) ∧ Rs InT.vs 12 w (.slice aI nI cI) LI ∧ (∀ x ∈ LI, okI x.ints) ∧ Rs AsT.vs 4 w (.slice aA nA cA) LA ∧ (∀ x ∈ LA, okI x.ints)) :=
 (Opens.struct (Q := fun i w cs => if i = 0 then (∃ v L, cs = [v] ∧ Rs MbT.vs 3 w v L ∧ ∀ x ∈ L, okI x.ints) else if i = 1 then (∃ v L, cs = [v] ∧ Rs InT.vs 12 w v L ∧ ∀ x ∈ L, okI x.ints) else (∃ v L, cs = [v] ∧ Rs AsT.vs 4 w v L ∧ ∀ x ∈ L, okI x.ints)) Tryz.underlying28 (by
  intro i f hf
  match i, hf with
  | 0, hf => simp at hf; subst hf; exact opens_Members
  | 1, hf => simp at hf; subst hf; exact opens_Insts
  | 2, hf => simp at hf; subst hf; exact opens_Assets
  | i + 3, hf => simp at hf)).mono fun w cs ⟨hl, hq⟩ => by
  have hc : Tryz.prog.cellsOf 28 = 3 := by kernel_rfl
  have d0 : Tryz.prog.cellsOf 24 = 1 := by kernel_rfl
  have d1 : Tryz.prog.cellsOf 25 = 1 := by kernel_rfl
  have d2 : Tryz.prog.cellsOf 26 = 1 := by kernel_rfl
  rw [hc] at hl
  match cs, hl with
  | [u0, u1, u2], _ =>
   have h0 := hq 0 _ rfl
   have h1 := hq 1 _ rfl
   have h2 := hq 2 _ rfl
   simp [d0, d1, d2] at h0 h1 h2
   obtain ⟨LM, rM, kM⟩ := h0
   obtain ⟨aM, cM, eM, _, _⟩ := rM.shape
   subst eM
   obtain ⟨LI, rI, kI⟩ := h1
   obtain ⟨aI, cI, eI, _, _⟩ := rI.shape
   subst eI
   obtain ⟨LA, rA, kA⟩ := h2
   obtain ⟨aA, cA, eA, _, _⟩ := rA.shape
   subst eA
   exact ⟨aM, _, cM, aI, _, cI, aA, _, cA, LM, LI, LA, rfl, rM, kM, rI, kI, rA, kA⟩
theorem opens_Book : Opens Tryz.prog 32 (fun w cs => ∃ n0 aT nT cT aP nP cP LT LP, cs = [.int .i64 n0, .slice aT nT cT, .slice aP nP cP] ∧ okI [n0] ∧ Rs TrT.vs 7 w (.slice aT nT cT) LT ∧ (∀ x ∈ LT, okI x.ints) ∧ Rs PoT.vs 4 w (.slice aP nP cP) LP ∧ (∀ x ∈ LP, okI x.ints)) :=
 (Opens.struct (Q := fun i w cs => if i = 0 then (Nums cs) else if i = 1 then (∃ v L, cs = [v] ∧ Rs TrT.vs 7 w v L ∧ ∀ x ∈ L, okI x.ints) else (∃ v L, cs = [v] ∧ Rs PoT.vs 4 w v L ∧ ∀ x ∈ L, okI x.ints)) Tryz.underlying32 (by
  intro i f hf
  match i, hf with
  | 0, hf => simp at hf; subst hf; exact Opens.nums_int Tryz.underlying3
  | 1, hf => simp at hf; subst hf; exact opens_Trades
  | 2, hf => simp at hf; subst hf; exact opens_Poss
  | i + 3, hf => simp at hf)).mono fun w cs ⟨hl, hq⟩ => by
  have hc : Tryz.prog.cellsOf 32 = 3 := by kernel_rfl
  have c1 : Tryz.prog.cellsOf 3 = 1 := by kernel_rfl
  have d0 : Tryz.prog.cellsOf 29 = 1 := by kernel_rfl
  have d1 : Tryz.prog.cellsOf 30 = 1 := by kernel_rfl
  rw [hc] at hl
  match cs, hl with
  | [u0, u1, u2], _ =>
   have h0 := hq 0 _ rfl
   have h1 := hq 1 _ rfl
   have h2 := hq 2 _ rfl
   simp [c1, d0, d1] at h0 h1 h2
   obtain ⟨n0, rfl, w0⟩ := int_cell h0
   obtain ⟨LT, rT, kT⟩ := h1
   obtain ⟨aT, cT, eT, _, _⟩ := rT.shape
   subst eT
   obtain ⟨LP, rP, kP⟩ := h2
   obtain ⟨aP, cP, eP, _, _⟩ := rP.shape
   subst eP
   exact ⟨n0, aT, _, cT, aP, _, cP, LT, LP, rfl, w0, rT, kT, rP, kP⟩
theorem opens_Ledger : Opens Tryz.prog 35 (fun w cs => ∃ n0 aB nB cB LB, cs = [.int .i64 n0, .slice aB nB cB] ∧ okI [n0] ∧ Rs BaT.vs 4 w (.slice aB nB cB) LB ∧ (∀ x ∈ LB, okI x.ints)) :=
 (Opens.struct (Q := fun i w cs => if i = 0 then (Nums cs) else (∃ v L, cs = [v] ∧ Rs BaT.vs 4 w v L ∧ ∀ x ∈ L, okI x.ints)) Tryz.underlying35 (by
  intro i f hf
  match i, hf with
  | 0, hf => simp at hf; subst hf; exact Opens.nums_int Tryz.underlying3
  | 1, hf => simp at hf; subst hf; exact opens_Balances
  | i + 2, hf => simp at hf)).mono fun w cs ⟨hl, hq⟩ => by
  have hc : Tryz.prog.cellsOf 35 = 2 := by kernel_rfl
  have c1 : Tryz.prog.cellsOf 3 = 1 := by kernel_rfl
  have d0 : Tryz.prog.cellsOf 33 = 1 := by kernel_rfl
  rw [hc] at hl
  match cs, hl with
  | [u0, u1], _ =>
   have h0 := hq 0 _ rfl
   have h1 := hq 1 _ rfl
   simp [c1, d0] at h0 h1
   obtain ⟨n0, rfl, w0⟩ := int_cell h0
   obtain ⟨LB, rB, kB⟩ := h1
   obtain ⟨aB, cB, eB, _, _⟩ := rB.shape
   subst eB
   exact ⟨n0, aB, _, cB, LB, rfl, w0, rB, kB⟩
def stQ (i : Nat) (w : World) (cs : List Value) : Prop :=
 match i with
 | 0 => Nums cs
 | 1 => ∃ aM nM cM aI nI cI aA nA cA LM LI LA, cs = [.slice aM nM cM, .slice aI nI cI, .slice aA nA cA] ∧ Rs MbT.vs 3 w (.slice aM nM cM) LM ∧ (∀ x ∈ LM, okI x.ints) ∧ Rs InT.vs 12 w (.slice aI nI cI) LI ∧ (∀ x ∈ LI, okI x.ints) ∧ Rs AsT.vs 4 w (.slice aA nA cA) LA ∧ (∀ x ∈ LA, okI x.ints)
 | 2 => ∃ n0 aT nT cT aP nP cP LT LP, cs = [.int .i64 n0, .slice aT nT cT, .slice aP nP cP] ∧ okI [n0] ∧ Rs TrT.vs 7 w (.slice aT nT cT) LT ∧ (∀ x ∈ LT, okI x.ints) ∧ Rs PoT.vs 4 w (.slice aP nP cP) LP ∧ (∀ x ∈ LP, okI x.ints)
 | 3 => ∃ n0 aB nB cB LB, cs = [.int .i64 n0, .slice aB nB cB] ∧ okI [n0] ∧ Rs BaT.vs 4 w (.slice aB nB cB) LB ∧ (∀ x ∈ LB, okI x.ints)
 | 4 => ∃ v L, cs = [v] ∧ Rs PlT.vs 3 w v L ∧ ∀ x ∈ L, okI x.ints
 | 5 => ∃ v L, cs = [v] ∧ Rs CaT.vs 4 w v L ∧ ∀ x ∈ L, okI x.ints
 | 6 => ∃ v L, cs = [v] ∧ Rs BiT.vs 5 w v L ∧ ∀ x ∈ L, okI x.ints
 | _ => ∃ (v : Value) (L : List SV) (M : List SeT), cs = [v] ∧ Rs SV.vs 7 w v L ∧ L.length = M.length ∧ (∀ i (h : i < L.length) (h' : i < M.length), SVok w L[i] M[i]) ∧ ∀ x ∈ M, x.ok
theorem opens_State : Opens Tryz.prog 41 (fun w cs => ∃ a1 n1 c1 a2 n2 c2 a3 n3 c3 a4 n4 c4 a5 n5 c5 a6 n6 c6 a7 n7 c7 a8 n8 c8 a9 n9 c9 a10 n10 c10 L s, cs = [.int .i64 s.now, .int .i64 s.day, .int .i64 s.ph, .slice a1 n1 c1, .slice a2 n2 c2, .slice a3 n3 c3, .int .i64 s.nx, .slice a4 n4 c4, .slice a5 n5 c5, .int .i64 s.la, .slice a6 n6 c6, .slice a7 n7 c7, .slice a8 n8 c8, .slice a9 n9 c9, .slice a10 n10 c10] ∧ StC w a1 n1 c1 a2 n2 c2 a3 n3 c3 a4 n4 c4 a5 n5 c5 a6 n6 c6 a7 n7 c7 a8 n8 c8 a9 n9 c9 a10 n10 c10 L s ∧ s.ok) :=
 (Opens.struct (Q := stQ) Tryz.underlying41 (by
  intro i f hf
  match i, hf with
  | 0, hf => simp at hf; subst hf; exact opens_Clock.mono (fun _ _ h => h.2)
  | 1, hf => simp at hf; subst hf; exact opens_Roll
  | 2, hf => simp at hf; subst hf; exact opens_Book
  | 3, hf => simp at hf; subst hf; exact opens_Ledger
  | 4, hf => simp at hf; subst hf; exact opens_Pledges
  | 5, hf => simp at hf; subst hf; exact opens_Calls
  | 6, hf => simp at hf; subst hf; exact opens_Bids
  | 7, hf => simp at hf; subst hf; exact opens_Seats
  | i + 8, hf => simp at hf)).mono fun w cs ⟨hl, hq⟩ => by
  have hc : Tryz.prog.cellsOf 41 = 15 := by kernel_rfl
  have d0 : Tryz.prog.cellsOf 23 = 3 := by kernel_rfl
  have d1 : Tryz.prog.cellsOf 28 = 3 := by kernel_rfl
  have d2 : Tryz.prog.cellsOf 32 = 3 := by kernel_rfl
  have d3 : Tryz.prog.cellsOf 35 = 2 := by kernel_rfl
  have d4 : Tryz.prog.cellsOf 36 = 1 := by kernel_rfl
  have d5 : Tryz.prog.cellsOf 37 = 1 := by kernel_rfl
  have d6 : Tryz.prog.cellsOf 38 = 1 := by kernel_rfl
  have d7 : Tryz.prog.cellsOf 39 = 1 := by kernel_rfl
  rw [hc] at hl
  match cs, hl with
  | [u0, u1, u2, u3, u4, u5, u6, u7, u8, u9, u10, u11, u12, u13, u14], _ =>
   have h0 : stQ 0 w [u0, u1, u2] := by
    have h := hq 0 _ rfl
    simp [d0] at h
    exact h
   have h1 : stQ 1 w [u3, u4, u5] := by
    have h := hq 1 _ rfl
    simp [d1] at h
    exact h
   have h2 : stQ 2 w [u6, u7, u8] := by
    have h := hq 2 _ rfl
    simp [d2] at h
    exact h
   have h3 : stQ 3 w [u9, u10] := by
    have h := hq 3 _ rfl
    simp [d3] at h
    exact h
   have h4 : stQ 4 w [u11] := by
    have h := hq 4 _ rfl
    simp [d4] at h
    exact h
   have h5 : stQ 5 w [u12] := by
    have h := hq 5 _ rfl
    simp [d5] at h
    exact h
   have h6 : stQ 6 w [u13] := by
    have h := hq 6 _ rfl
    simp [d6] at h
    exact h
   have h7 : stQ 7 w [u14] := by
    have h := hq 7 _ rfl
    simp [d7] at h
    exact h
   obtain ⟨LC, eC, wC⟩ := h0
   have hlC : LC.length = 3 := by have := congrArg List.length eC; simpa using this.symm
   obtain ⟨x0, x1, x2, hx⟩ : ∃ x0 x1 x2, LC = [x0, x1, x2] := by
    match LC, hlC with
    | [a, b, c], _ => exact ⟨a, b, c, rfl⟩
   subst hx
   simp only [List.map_cons, List.map_nil, List.cons.injEq, and_true] at eC
   obtain ⟨rfl, rfl, rfl⟩ := eC
   obtain ⟨a1, n1, c1, a2, n2, c2, a3, n3, c3, LM, LI, LA, e1, r1, k1, r2, k2, r3, k3⟩ := h1
   simp only [List.cons.injEq, and_true] at e1
   obtain ⟨rfl, rfl, rfl⟩ := e1
   obtain ⟨nx, a4, n4, c4, a5, n5, c5, LT, LP, e2, w2, r4, k4, r5, k5⟩ := h2
   simp only [List.cons.injEq, and_true] at e2
   obtain ⟨rfl, rfl, rfl⟩ := e2
   obtain ⟨la, a6, n6, c6, LB, e3, w3, r6, k6⟩ := h3
   simp only [List.cons.injEq, and_true] at e3
   obtain ⟨rfl, rfl⟩ := e3
   obtain ⟨v7, LG, e4, r7, k7⟩ := h4
   obtain ⟨v8, LCa, e5, r8, k8⟩ := h5
   obtain ⟨v9, LD, e6, r9, k9⟩ := h6
   obtain ⟨v10, LS, MS, e7, r10, m1, m2, m3⟩ := h7
   simp only [List.cons.injEq, and_true] at e4 e5 e6 e7
   subst e4 e5 e6 e7
   obtain ⟨a7, c7, rfl, _, _⟩ := r7.shape
   obtain ⟨a8, c8, rfl, _, _⟩ := r8.shape
   obtain ⟨a9, c9, rfl, _, _⟩ := r9.shape
   obtain ⟨a10, c10, rfl, _, _⟩ := r10.shape
   exact ⟨a1, n1, c1, a2, n2, c2, a3, n3, c3, a4, n4, c4, a5, n5, c5, a6, n6, c6, a7, _, c7, a8, _, c8, a9, _, c9, a10, _, c10, LS, ⟨x0, x1, x2, LM, LI, LA, nx, LT, LP, la, LB, LG, LCa, LD, MS⟩, rfl, ⟨r1, r2, r3, r4, r5, r6, r7, r8, r9, r10, m1, m2⟩, ⟨wC, k1, k2, k3, w2, k4, k5, w3, k6, k7, k8, k9, m3⟩⟩
theorem open_state {W : World} {v : Value} (h : ArgOk Tryz.prog W 41 v) : ∃ a1 n1 c1 a2 n2 c2 a3 n3 c3 a4 n4 c4 a5 n5 c5 a6 n6 c6 a7 n7 c7 a8 n8 c8 a9 n9 c9 a10 n10 c10 L s, v = .agg #[s.now, s.day, s.ph, .slice a1 n1 c1, .slice a2 n2 c2, .slice a3 n3 c3, s.nx, .slice a4 n4 c4, .slice a5 n5 c5, s.la, .slice a6 n6 c6, .slice a7 n7 c7, .slice a8 n8 c8, .slice a9 n9 c9, .slice a10 n10 c10] ∧ StC W a1 n1 c1 a2 n2 c2 a3 n3 c3 a4 n4 c4 a5 n5 c5 a6 n6 c6 a7 n7 c7 a8 n8 c8 a9 n9 c9 a10 n10 c10 L s ∧ s.ok := by
 obtain ⟨a1, n1, c1, a2, n2, c2, a3, n3, c3, a4, n4, c4, a5, n5, c5, a6, n6, c6, a7, n7, c7, a8, n8, c8, a9, n9, c9, a10, n10, c10, L, s, hc, h1, h2⟩ := h.2 _ opens_State
 refine ⟨a1, n1, c1, a2, n2, c2, a3, n3, c3, a4, n4, c4, a5, n5, c5, a6, n6, c6, a7, n7, c7, a8, n8, c8, a9, n9, c9, a10, n10, c10, L, s, ?_, h1, h2⟩
 cases v with
 | agg ar =>
  obtain ⟨l⟩ := ar
  change l = _ at hc
  rw [hc]
 | _ => have := congrArg List.length hc; simp [Value.cells] at this
end Cam
