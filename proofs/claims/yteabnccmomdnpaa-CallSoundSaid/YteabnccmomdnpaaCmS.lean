import Derived.Test.YteabnccmomdnpaaCmA
import Derived.Test.YteabnccmomdnpaaClQ
/- cambistref15.set. -/
namespace Cam
open Go Go.RowKit Go.Proofs

def findP (w k : Int) (l : List CT) : Option CT := l.find? (fun d => decide (d.who = w ∧ d.cur = k))
def setK (l : List CT) (c : CT) (w k : Int) : List CT := if w = c.who ∧ k = c.cur then (if 0 < c.amt then [c] else []) else (findP w k l).toList
def rowL (l : List CT) (c : CT) (w : Int) (k : Nat) : List CT := (List.range k).flatMap fun (b : Nat) => setK l c w (b : Int)
def allL (l : List CT) (c : CT) (w : Nat) : List CT := (List.range w).flatMap fun (a : Nat) => rowL l c ((a : Int) + 1) 3
theorem setK_len (l : List CT) (c : CT) (w k : Int) : (setK l c w k).length ≤ 1 := by
  unfold setK
  split
  · split <;> simp
  · cases findP w k l <;> simp
theorem rowL_succ (l : List CT) (c : CT) (w : Int) (k : Nat) : rowL l c w (k + 1) = rowL l c w k ++ setK l c w k := by
  unfold rowL
  rw [List.range_succ, List.flatMap_append]
  simp
theorem allL_succ (l : List CT) (c : CT) (w : Nat) : allL l c (w + 1) = allL l c w ++ rowL l c ((w : Int) + 1) 3 := by
  unfold allL
  rw [List.range_succ, List.flatMap_append]
  simp
theorem rowL_len (l : List CT) (c : CT) (w : Int) (k : Nat) : (rowL l c w k).length ≤ k := by
  induction k with
  | zero => simp [rowL]
  | succ k ih =>
    rw [rowL_succ, List.length_append]
    have := setK_len l c w k
    omega
theorem allL_len (l : List CT) (c : CT) (w : Nat) : (allL l c w).length ≤ 3 * w := by
  induction w with
  | zero => simp [allL]
  | succ w ih =>
    rw [allL_succ, List.length_append]
    have := rowL_len l c ((w : Int) + 1) 3
    omega
theorem ix_find {l : List CT} {w k r : Int} (h : IsIx w k l r) : (r = -1 ∧ findP w k l = none) ∨ (∃ p, ∃ hp : p < l.length, r = (p : Int) ∧ findP w k l = some l[p]) := by
  rcases h with ⟨h1, h2⟩ | ⟨p, hp, h1, h2, h3⟩
  · refine Or.inl ⟨h1, ?_⟩
    unfold findP
    rw [List.find?_eq_none]
    intro c hc
    obtain ⟨q, hq, rfl⟩ := List.mem_iff_getElem.1 hc
    simpa using h2 q hq
  · refine Or.inr ⟨p, hp, h1, ?_⟩
    unfold findP
    rw [List.find?_eq_some_iff_getElem]
    refine ⟨by simpa using h2, p, hp, rfl, fun j hj => ?_⟩
    simp only [Bool.not_eq_true', decide_eq_false_iff_not]
    exact h3 j hj
theorem setK_other {l : List CT} {c : CT} {w k : Int} (h : ¬ (w = c.who ∧ k = c.cur)) : setK l c w k = (findP w k l).toList := if_neg h
theorem setK_here {l : List CT} {c : CT} (h : 0 < c.amt) : setK l c c.who c.cur = [c] := by unfold setK; rw [if_pos ⟨rfl, rfl⟩, if_pos h]
theorem setK_gone {l : List CT} {c : CT} (h : ¬ 0 < c.amt) : setK l c c.who c.cur = [] := by unfold setK; rw [if_pos ⟨rfl, rfl⟩, if_neg h]

set_option maxRecDepth 100000 in
set_option maxHeartbeats 6400000 in
theorem set_any (w : World) (v : Value) (l : List CT) (cw cc ca ct : Int) (h : Cs w v l) (hl : l.length ≤ 100000) :
    Calls Try.prog 37 #[v, .agg #[.int .i64 cw, .int .i64 cc, .int .i64 ca, .int .i64 ct]] w (InsPost w w.heap.size (allL l ⟨cw, cc, ca, ct⟩ 16)) := by
  obtain ⟨av, cap, rfl, hcap, hm⟩ := h.shape
  have hbW := (Below.refl w.heap.size w).alloc (Nat.le_refl _) (.cells #[.int .i64 cw, .int .i64 cc, .int .i64 ca, .int .i64 ct] 28)
  have hn0 := heap_alloc_new w (.cells #[.int .i64 cw, .int .i64 cc, .int .i64 ca, .int .i64 ct] 28)
  have hcl : ∀ j u, #[Value.int .i64 cw, .int .i64 cc, .int .i64 ca, .int .i64 ct][j]? = some u → (w.alloc (.cells #[.int .i64 cw, .int .i64 cc, .int .i64 ca, .int .i64 ct] 28)).cell? ⟨w.heap.size, j, none⟩ = some u := by
    intro j u hu
    unfold World.cell?
    rw [hn0]
    exact hu
  have hC : ∀ W2, Below (w.alloc (.cells #[.int .i64 cw, .int .i64 cc, .int .i64 ca, .int .i64 ct] 28)).heap.size (w.alloc (.cells #[.int .i64 cw, .int .i64 cc, .int .i64 ca, .int .i64 ct] 28)) W2 → W2.cell? ⟨w.heap.size, 0, none⟩ = some (.int .i64 cw) ∧ W2.cell? ⟨w.heap.size, 1, none⟩ = some (.int .i64 cc) ∧ W2.cell? ⟨w.heap.size, 2, none⟩ = some (.int .i64 ca) ∧ W2.cell? ⟨w.heap.size, 3, none⟩ = some (.int .i64 ct) := fun W2 hb =>
    have c : ∀ {p : Addr} {x : Value}, (w.alloc (.cells #[.int .i64 cw, .int .i64 cc, .int .i64 ca, .int .i64 ct] 28)).cell? p = some x → W2.cell? p = some x := fun h => (hb.cell (World.block_lt_of_cell? _ _ h)).trans h
    ⟨c (hcl 0 _ rfl), c (hcl 1 _ rfl), c (hcl 2 _ rfl), c (hcl 3 _ rfl)⟩
  have hv := h.mono hbW
  obtain ⟨n, hn⟩ : ∃ n, n = l.length := ⟨_, rfl⟩
  have HN := Lib.hid hn
  have HL := Lib.hid hl
  rw [← hn] at hcap hv ⊢
  have HV := Lib.hid hv
  have HBW := Lib.hid hbW
  have HC := Lib.hid hC
  clear hn hn0 hcl hC hv hbW h
  obtain ⟨W0, hW0⟩ : ∃ W0, W0 = w.alloc (.cells #[.int .i64 cw, .int .i64 cc, .int .i64 ca, .int .i64 ct] 28) := ⟨_, rfl⟩
  rw [← hW0] at HV HBW HC
  have HW0 := Lib.hid hW0
  clear hW0 hl
  go_enter Try.func37, Try.ntmps37
  go_wp2_with fail
  rw [← HW0.out]
  go_loopw [5, 6] (fun v5 v6 wr => ∃ (k : Nat) (xs : List CT) (a5 : Option Addr) (n5 c5 : Nat), k ≤ 16 ∧ v6 = .int .i64 ((k : Int) + 1) ∧ v5 = .slice a5 n5 c5 ∧ OwnC wr W0.heap.size (.slice a5 n5 c5) xs ∧ Hid (xs = allL l ⟨cw, cc, ca, ct⟩ k) ∧ Below W0.heap.size W0 wr) (fun _ i _ => (17 - intOf i).toNat)
  case atStart => exact ⟨0, [], none, 0, 0, Nat.zero_le _, rfl, rfl, OwnR.empty CT.len _ _ _, rfl, Below.refl _ _⟩
  case round =>
    obtain ⟨k, xs, a5, n5, c5, hk, rfl, rfl, ho, HXS, hbel⟩ := hrel
    have hlen : xs.length ≤ 48 := by
      have := allL_len l ⟨cw, cc, ca, ct⟩ k
      rw [HXS.out]
      omega
    have HO := Lib.hid ho
    have HBE := Lib.hid hbel
    clear ho hbel
    by_cases hlt : k < 16
    · have hk16 : decide ((k : Int) + 1 ≤ 16) = true := decide_eq_true (by omega)
      go_wp2_with fail
      go_loopw [5, 7] (fun v5 v7 wi => ∃ (q : Nat) (ys : List CT) (a7 : Option Addr) (n7 c7 : Nat), q ≤ 3 ∧ v7 = .int .i64 q ∧ v5 = .slice a7 n7 c7 ∧ OwnC wi W0.heap.size (.slice a7 n7 c7) ys ∧ Hid (ys = xs ++ rowL l ⟨cw, cc, ca, ct⟩ ((k : Int) + 1) q) ∧ Below W0.heap.size W0 wi) (fun _ i _ => (3 - intOf i).toNat)
      case atStart => exact ⟨0, xs, a5, n5, c5, Nat.zero_le _, rfl, rfl, HO.out, by show _ = _; simp [rowL], HBE.out⟩
      case round =>
        obtain ⟨q, ys, a7, n7, c7, hq, rfl, rfl, ho, HYS, hbel⟩ := hrel
        obtain ⟨wi, hwi⟩ : ∃ wi, wi = wr := ⟨_, rfl⟩
        rw [← hwi] at ho hbel ⊢
        clear hwi
        have hleny : ys.length ≤ 100000 := by
          have := rowL_len l ⟨cw, cc, ca, ct⟩ ((k : Int) + 1) q
          rw [HYS.out, List.length_append]
          omega
        have HX := Lib.hid ho
        by_cases hqt : q < 3
        · obtain ⟨g0, g1, g2, g3⟩ := HC.out wi hbel
          have hone' : ∀ zs, setK l ⟨cw, cc, ca, ct⟩ ((k : Int) + 1) q = zs → ys ++ zs = xs ++ rowL l ⟨cw, cc, ca, ct⟩ ((k : Int) + 1) (q + 1) := fun zs hz => by
            rw [rowL_succ, hz, HYS.out, List.append_assoc]
          have HONE := Lib.hid hone'
          have HBEL := Lib.hid hbel
          clear hone' ho
          have stay : setK l ⟨cw, cc, ca, ct⟩ ((k : Int) + 1) q = [] → Hid (ys = xs ++ rowL l ⟨cw, cc, ca, ct⟩ ((k : Int) + 1) (q + 1)) := fun hz => by
            have := HONE.out [] hz
            rw [List.append_nil] at this
            exact this
          have HST := Lib.hid stay
          clear stay
          have hcase : (((k : Int) + 1 = cw ∧ (q : Int) = cc)) ∨ (((k : Int) + 1 == cw) = false) ∨ ((((k : Int) + 1) == cw) = true ∧ (((q : Int) == cc) = false)) := by
            by_cases e0 : (k : Int) + 1 = cw
            · by_cases e1 : (q : Int) = cc
              · exact Or.inl ⟨e0, e1⟩
              · exact Or.inr (Or.inr ⟨by simpa using e0, by simpa using e1⟩)
            · exact Or.inr (Or.inl (by simpa using e0))
          have HCASE := Lib.hid hcase
          clear hcase hbel
          by_cases hhere : (k : Int) + 1 = cw ∧ (q : Int) = cc
          · obtain ⟨rfl, rfl⟩ := hhere
            clear HCASE
            by_cases hca : 0 < ca
            · have HNEW := Lib.hid (HONE.out [⟨(k : Int) + 1, q, ca, ct⟩] (setK_here (c := ⟨(k : Int) + 1, q, ca, ct⟩) hca))
              clear HONE HST
              have hoA := HX.out.alloc (.cells #[.int .i64 ((k : Int) + 1), .int .i64 (q : Int), .int .i64 ca, .int .i64 ct] 28)
              have hone : Cs (wi.alloc (.cells #[.int .i64 ((k : Int) + 1), .int .i64 (q : Int), .int .i64 ca, .int .i64 ct] 28)) (.slice (some ⟨wi.heap.size, 0, none⟩) 1 1) [(⟨(k : Int) + 1, q, ca, ct⟩ : CT)] := Rs.one CT.len wi ((⟨(k : Int) + 1, q, ca, ct⟩ : CT) : CT) 28
              have hbA := HBEL.out.alloc HBEL.out.size (.cells #[.int .i64 ((k : Int) + 1), .int .i64 (q : Int), .int .i64 ca, .int .i64 ct] 28)
              have hszA := hbA.size
              have hle : (ys.length + [(⟨(k : Int) + 1, q, ca, ct⟩ : CT)].length) * 32 ≤ 140737488355328 := by simp; omega
              clear hleny
              go_wp2_with (first
                | (at_builtin; refine wpList_append_rows (v := .slice a7 n7 c7) rfl (.tmp 33) (.tmp 35) 22 rfl (L := ys) (M := [(⟨(k : Int) + 1, q, ca, ct⟩ : CT)]) (base := W0.heap.size) elem_call rfl rfl hoA hone CT.one hle (by decide) hszA ?_; intro a8 n8 c8 w8 Hn8 ho8 hg8 hat8 hb8)
                | fail)
              exact ⟨⟨q + 1, ys ++ [(⟨(k : Int) + 1, q, ca, ct⟩ : CT)], a8, n8, c8, by omega, by push_cast; rfl, rfl, ho8, HNEW, hbA.trans hb8⟩, by simp [intOf]; omega⟩
            · have HNEW := HST.out (setK_gone (c := ⟨(k : Int) + 1, q, ca, ct⟩) hca)
              have hca' : decide (0 < ca) = false := by simpa using hca
              clear HONE HST hca
              go_wp2_with fail
              exact ⟨⟨q + 1, ys, a7, n7, c7, by omega, by push_cast; rfl, rfl, HX.out, HNEW, HBEL.out⟩, by simp [intOf]; omega⟩
          · have HOTH := Lib.hid (setK_other (l := l) (c := ⟨cw, cc, ca, ct⟩) hhere)
            have hcase := HCASE.out.resolve_left hhere
            have cl := Called_any wi ((k : Int) + 1) (q : Int) _ l (HV.out.mono HBEL.out) HL.out
            clear HCASE hhere
            rcases hcase with hc1 | ⟨hc1, hc2⟩
            all_goals
              go_wp2_with fail
              refine cl.mono ?_
              clear cl
              rintro e w5 ⟨r, rfl, hix, rfl⟩
              rcases ix_find hix with ⟨rfl, hf⟩ | ⟨p, hp, rfl, hf⟩
              · have HNEW := HST.out (by rw [HOTH.out, hf]; rfl)
                clear HONE HST hix hf HOTH
                go_wp2_with fail
                exact ⟨⟨q + 1, ys, a7, n7, c7, by omega, by push_cast; rfl, rfl, HX.out, HNEW, HBEL.out⟩, by simp [intOf]; omega⟩
              · obtain ⟨d, hd⟩ : ∃ d, d = l[p] := ⟨_, rfl⟩
                have HNEW := Lib.hid (HONE.out [d] (by rw [HOTH.out, hf, hd]; rfl))
                obtain ⟨bl, off, rfl, _, hcs⟩ := Cs.at4 (HV.out.mono HBEL.out) (by omega)
                obtain ⟨m0, m1, m2, m3⟩ := hcs p hp
                rw [← hd] at m0 m1 m2 m3
                have hpn : p < n := by have := HN.out; omega
                obtain ⟨xw, xc, xa, xt⟩ := d
                simp only at m0 m1 m2 m3
                clear HONE HST hix hf HOTH hcs hd hp
                have hoA := HX.out.alloc (.cells #[.int .i64 xw, .int .i64 xc, .int .i64 xa, .int .i64 xt] 28)
                have hone : Cs (wi.alloc (.cells #[.int .i64 xw, .int .i64 xc, .int .i64 xa, .int .i64 xt] 28)) (.slice (some ⟨wi.heap.size, 0, none⟩) 1 1) [(⟨xw, xc, xa, xt⟩ : CT)] := Rs.one CT.len wi ((⟨xw, xc, xa, xt⟩ : CT) : CT) 28
                have hbA := HBEL.out.alloc HBEL.out.size (.cells #[.int .i64 xw, .int .i64 xc, .int .i64 xa, .int .i64 xt] 28)
                have hszA := hbA.size
                have hle : (ys.length + [(⟨xw, xc, xa, xt⟩ : CT)].length) * 32 ≤ 140737488355328 := by simp; omega
                clear hleny
                go_wp2_with (first
                  | (at_builtin; refine wpList_append_rows (v := .slice a7 n7 c7) rfl (.tmp 43) (.tmp 48) 22 rfl (L := ys) (M := [(⟨xw, xc, xa, xt⟩ : CT)]) (base := W0.heap.size) elem_call rfl rfl hoA hone CT.one hle (by decide) hszA ?_; intro a8 n8 c8 w8 Hn8 ho8 hg8 hat8 hb8)
                  | fail)
                exact ⟨⟨q + 1, ys ++ [(⟨xw, xc, xa, xt⟩ : CT)], a8, n8, c8, by omega, by push_cast; rfl, rfl, ho8, HNEW, hbA.trans hb8⟩, by simp [intOf]; omega⟩
        · obtain rfl : q = 3 := by omega
          have HNEW : Hid (ys = allL l ⟨cw, cc, ca, ct⟩ (k + 1)) := by
            show _ = _
            rw [allL_succ, HYS.out, HXS.out]
          go_wp2_with fail
          exact ⟨⟨k + 1, ys, a7, n7, c7, by omega, by push_cast; rfl, rfl, HX.out, HNEW, hbel⟩, by simp [intOf]; omega⟩
    · obtain rfl : k = 16 := by omega
      go_wp2_with fail
      go_ret
      exact ⟨a5, n5, c5, rfl, by rw [← HXS.out]; exact HO.out.base HBW.out.size, HBW.out.trans (HBE.out.mono HBW.out.size)⟩
end Cam
