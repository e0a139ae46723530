import Derived.Test.YtlnclfiiplpaiaaJnC
/- journal: a log in memory; Open, Gen, Snap, Recs. -/
namespace Cam
open Go Go.RowKit Go.Proofs
structure LT where
 from_ : Nat
 half : HalfT
 begun : Bool
def lcells (g : Nat) (vsn vrc : Value) (T : LT) : List Value := [.pointer (some ⟨g, 0, none⟩), .int .i64 (T.from_ : Int), .int .i64 (T.half.gen : Int), vsn, vrc, .int .i64 (T.half.fin : Int), .bool T.begun]
theorem halfM.kept {S : Nat → Prop} {w w' : World} {F : Nat → Prop} {vsn vrc : Value} {H : HalfT} (h : halfM w F vsn vrc H) (hk : Kept S w w') (hS : ∀ k, F k → ¬ S k) : halfM w' F vsn vrc H := ⟨h.1.keptJ hk (fun k e => hS k (h.2.1 k e)), h.2.1, h.2.2.kept hk hS⟩
theorem halfM.weaken {w : World} {F F' : Nat → Prop} {vsn vrc : Value} {H : HalfT} (h : halfM w F vsn vrc H) (hF : ∀ k, F k → F' k) : halfM w F' vsn vrc H := ⟨h.1, fun k e => hF k (h.2.1 k e), h.2.2.weaken hF⟩
theorem recsM.lt {w : World} {F : Nat → Prop} {v : Value} {R : List (List UInt8)} (h : recsM w F v R) : recsM w (fun k => F k ∧ k < w.heap.size) v R := by
 obtain ⟨vs, h1, h2, h3, h4⟩ := h
 exact ⟨vs, h1, h2, fun k e => ⟨h3 k e, OwnR.lt h2 k e⟩, fun i a b => ⟨(h4 i a b).1, fun k e => ⟨(h4 i a b).2 k e, OwnB.lt (h4 i a b).1 k e⟩⟩⟩
theorem halfM.lt {w : World} {F : Nat → Prop} {vsn vrc : Value} {H : HalfT} (h : halfM w F vsn vrc H) : halfM w (fun k => F k ∧ k < w.heap.size) vsn vrc H := ⟨h.1, fun k e => ⟨h.2.1 k e, OwnB.lt h.1 k e⟩, h.2.2.lt⟩
def LX (w : World) (gl : Nat) (F : Nat → Prop) (g : Nat) (T : LT) : Prop := ∃ vsn vrc, HT w gl 89 (lcells g vsn vrc T) ∧ halfM w F vsn vrc T.half ∧ F gl ∧ ∀ k, F k → k < w.heap.size
theorem LX.kept {S : Nat → Prop} {w w' : World} {gl g : Nat} {F : Nat → Prop} {T : LT} (h : LX w gl F g T) (hk : Kept S w w') (hS : ∀ k, F k → ¬ S k) : LX w' gl F g T := by
 obtain ⟨vsn, vrc, h1, h2, h3, h4⟩ := h
 exact ⟨vsn, vrc, h1.keptJ hk (hS gl h3), h2.kept hk hS, h3, fun k e => Nat.lt_of_lt_of_le (h4 k e) hk.size⟩
theorem LX.below {w w' : World} {gl g : Nat} {F : Nat → Prop} {T : LT} (h : LX w gl F g T) (hb : Below w.heap.size w w') : LX w' gl F g T := h.kept (Kept.of_below hb) (fun _ _ e => e)
noncomputable def openT (n : Nat) (now : List (List UInt8)) : LT :=
 if 0 < (readL (now.take (n / 2))).gen ∧ (readL ((now.drop (n / 2)).take (n / 2))).gen ≤ (readL (now.take (n / 2))).gen then ⟨0, readL (now.take (n / 2)), false⟩ else ⟨n / 2, readL ((now.drop (n / 2)).take (n / 2)), false⟩
def OpenPost (w : World) (g : Nat) (T : LT) (e : Ending) (w' : World) : Prop := ∃ gl F, e = .returned (.tuple #[.pointer (some ⟨gl, 0, none⟩), .int .i64 0]) ∧ LX w' gl F g T ∧ (∀ k, F k → w.heap.size ≤ k) ∧ Below w.heap.size w w'
theorem OpenPost.mk' {w w1 : World} {g from_ : Nat} {H : HalfT} {T : LT} {a1 a2 : Option Addr} {n1 c1 n2 c2 gl : Nat} (hT : T = ⟨from_, H, false⟩) (hgl : gl = w1.heap.size) (hm : halfM w1 (fun k => w.heap.size ≤ k) (.slice a1 n1 c1) (.slice a2 n2 c2) H) (hb : Below w.heap.size w w1) :
  OpenPost w g T (.returned (.tuple #[.pointer (some ⟨gl, 0, none⟩), .int .i64 0])) (w1.alloc (.cells #[.pointer (some ⟨g, 0, none⟩), .int .i64 (from_ : Int), .int .i64 (H.gen : Int), .slice a1 n1 c1, .slice a2 n2 c2, .int .i64 (H.fin : Int), .bool false] 89)) := by
 subst hT hgl
 have hA : Below w1.heap.size w1 (w1.alloc (.cells #[.pointer (some ⟨g, 0, none⟩), .int .i64 (from_ : Int), .int .i64 (H.gen : Int), .slice a1 n1 c1, .slice a2 n2 c2, .int .i64 (H.fin : Int), .bool false] 89)) := (Below.refl _ _).alloc (Nat.le_refl _) _
 refine ⟨w1.heap.size, fun k => w.heap.size ≤ k ∧ k < w1.heap.size + 1, rfl, ⟨.slice a1 n1 c1, .slice a2 n2 c2, HT.new, (hm.lt.below hA).weaken (fun k e => ⟨e.1, by have := e.2; omega⟩), ⟨hb.size, by omega⟩, fun k e => by have := e.2; simp; omega⟩, fun k e => e.1, hb.alloc hb.size _⟩
theorem halfM.named {w : World} {F : Nat → Prop} {vsn vrc : Value} {H : HalfT} (h : halfM w F vsn vrc H) : ∃ a1 n1 c1 a2 n2 c2, vsn = .slice a1 n1 c1 ∧ vrc = .slice a2 n2 c2 ∧ halfM w F (.slice a1 n1 c1) (.slice a2 n2 c2) H := by
 obtain ⟨a1, n1, c1, rfl, _, _⟩ := h.1.named
 obtain ⟨a2, n2, c2, rfl, _, _⟩ := h.2.2.named
 exact ⟨a1, n1, c1, a2, n2, c2, rfl, rfl, h⟩
set_option maxRecDepth 100000 in
set_option maxHeartbeats 3200000 in
theorem Open_ok (w : World) (g n : Nat) (F : Nat → Prop) (D : DK) (h : DX w g F n D) (hoff : D.off = false) (hn : 4 ≤ n) :
  Calls Try.prog 13 #[.pointer (some ⟨g, 0, none⟩)] w (OpenPost w g (openT n D.now)) := by
 have ho := Off_x w g n F D h
 rw [hoff] at ho
 have hbk := Blocks_x w g n F D h
 have hr1 := read_any w g n F D h hoff 0 (by omega)
 rw [List.drop_zero, show ((0 : Nat) : Int) = 0 from rfl] at hr1
 have hn1 := h.ok.n1
 have hn4 : decide ((n : Int) < 4) = false := by simp; omega
 obtain ⟨A, hA⟩ : ∃ z, z = D.now.take (n / 2) := ⟨_, rfl⟩
 obtain ⟨B, hB⟩ : ∃ z, z = (D.now.drop (n / 2)).take (n / 2) := ⟨_, rfl⟩
 have hT : openT n D.now = if 0 < (readL A).gen ∧ (readL B).gen ≤ (readL A).gen then ⟨0, readL A, false⟩ else ⟨n / 2, readL B, false⟩ := by rw [hA, hB]; rfl
 rw [← hA] at hr1
 obtain ⟨T, hTT⟩ : ∃ z, z = openT n D.now := ⟨_, rfl⟩
 rw [← hTT] at hT ⊢
 have HT0 := Lib.hid hT
 have H := Lib.hid h
 have HOFF := Lib.hid hoff
 have HB0 := Lib.hid hB
 clear hT hTT h hoff hA hB hn
 go_enter Try.func13, Try.ntmps13
 go_wp2_with fail
 refine ho.mono ?_
 rintro e w' ⟨rfl, rfl⟩
 clear ho
 go_wp2_with fail
 refine hbk.mono ?_
 rintro e w' ⟨rfl, rfl⟩
 clear hbk
 go_wp2_with fail
 refine hr1.mono ?_
 clear hr1
 rintro e w1 ⟨vsA, vrA, rfl, hmA, hb1⟩
 obtain ⟨a1, n1, c1, a2, n2, c2, rfl, rfl, hmA2⟩ := hmA.named
 obtain ⟨GA, hGA⟩ : ∃ z, z = (readL A).gen := ⟨_, rfl⟩
 obtain ⟨NA, hNA⟩ : ∃ z, z = (readL A).fin := ⟨_, rfl⟩
 rw [← hGA, ← hNA]
 have HGA := Lib.hid hGA
 have HNA := Lib.hid hNA
 have HMA := Lib.hid hmA2
 have hbx : Below w.heap.size w (w1.alloc (.cells #[.int .i64 0, .int .i64 (GA : Int), .slice a1 n1 c1, .slice a2 n2 c2, .int .i64 (NA : Int)] 84)) := hb1.alloc hb1.size _
 have hgx := HT.new (w := w1) (t := 84) (C := [.int .i64 0, .int .i64 (GA : Int), .slice a1 n1 c1, .slice a2 n2 c2, .int .i64 (NA : Int)])
 have HM2 := Lib.hid (hmA2.below ((Below.refl w1.heap.size w1).alloc (Nat.le_refl _) (.cells #[.int .i64 0, .int .i64 (GA : Int), .slice a1 n1 c1, .slice a2 n2 c2, .int .i64 (NA : Int)] 84)))
 clear hmA hmA2 hGA hNA HMA
 have hsz := size_any _ g n F D (H.out.below hbx)
 have hr2 := read_any _ g n F D (H.out.below hbx) HOFF.out (n / 2) (by omega)
 rw [← HB0.out] at hr2
 have HBX := Lib.hid hbx
 have HGX := Lib.hid hgx
 have hgw : w1.heap.size < (w1.alloc (.cells #[.int .i64 0, .int .i64 (GA : Int), .slice a1 n1 c1, .slice a2 n2 c2, .int .i64 (NA : Int)] 84)).heap.size := by simp
 obtain ⟨gx, hgx0⟩ : ∃ z, z = w1.heap.size := ⟨_, rfl⟩
 clear hbx hgx hb1
 go_wp2_with fail
 generalize (w1.alloc (.cells #[.int .i64 0, .int .i64 (GA : Int), .slice a1 n1 c1, .slice a2 n2 c2, .int .i64 (NA : Int)] 84)) = w2 at hsz hr2 HBX HGX HM2 hgw ⊢
 rw [← hgx0] at HGX hgw ⊢
 clear hgx0
 refine hsz.mono ?_
 rintro e w' ⟨rfl, rfl⟩
 clear hsz
 go_wp2_with fail
 refine hr2.mono ?_
 clear hr2
 rintro e w3 ⟨vsB, vrB, rfl, hmB, hb3⟩
 obtain ⟨a3, n3, c3, a4, n4, c4, rfl, rfl, hmB2⟩ := hmB.named
 obtain ⟨GB, hGB⟩ : ∃ z, z = (readL B).gen := ⟨_, rfl⟩
 obtain ⟨NB, hNB⟩ : ∃ z, z = (readL B).fin := ⟨_, rfl⟩
 obtain ⟨m, hm⟩ : ∃ z, z = n / 2 := ⟨_, rfl⟩
 rw [← hGB, ← hNB, ← hm]
 have HGB := Lib.hid hGB
 have HNB := Lib.hid hNB
 have HM := Lib.hid hm
 clear hm hGB hNB hmB
 have hA4 : Below w3.heap.size w3 (w3.alloc (.cells #[.int .i64 (m : Int), .int .i64 (GB : Int), .slice a3 n3 c3, .slice a4 n4 c4, .int .i64 (NB : Int)] 84)) := (Below.refl _ _).alloc (Nat.le_refl _) _
 have hxA := (HGX.out.below hb3).below hA4
 have hxB := HT.new (w := w3) (t := 84) (C := [.int .i64 (m : Int), .int .i64 (GB : Int), .slice a3 n3 c3, .slice a4 n4 c4, .int .i64 (NB : Int)])
 have HB4 := Lib.hid ((HBX.out.next hb3).trans (hA4.mono (HBX.out.next hb3).size))
 have HMA4 := Lib.hid ((HM2.out.below hb3).below hA4)
 have HMB4 := Lib.hid ((hmB2.weaken (F' := fun k => w.heap.size ≤ k) (fun k e => Nat.le_trans HBX.out.size e)).below hA4)
 have p1 := hxA.cell (j := 1) rfl
 have q1 := hxB.cell (j := 1) rfl
 have HXA := Lib.hid hxA
 have HXB := Lib.hid hxB
 have HSZ1 : Hid ((Try.prog.info? 84).map (·.size) = some (#[.int .i64 0, .int .i64 (GA : Int), .slice a1 n1 c1, .slice a2 n2 c2, .int .i64 (NA : Int)] : Array Value).size) := by show _ = _; rw [half5]; rfl
 have HSZ2 : Hid ((Try.prog.info? 84).map (·.size) = some (#[.int .i64 (m : Int), .int .i64 (GB : Int), .slice a3 n3 c3, .slice a4 n4 c4, .int .i64 (NB : Int)] : Array Value).size) := by show _ = _; rw [half5]; rfl
 clear hxA hxB hA4 hmB2 hb3
 have HRA : Hid ((w3.alloc (.cells #[.int .i64 (m : Int), .int .i64 (GB : Int), .slice a3 n3 c3, .slice a4 n4 c4, .int .i64 (NB : Int)] 84)).heap[gx]? = some (.cells #[.int .i64 0, .int .i64 (GA : Int), .slice a1 n1 c1, .slice a2 n2 c2, .int .i64 (NA : Int)] 84 (0, 0))) := HXA.out
 have HRB : Hid ((w3.alloc (.cells #[.int .i64 (m : Int), .int .i64 (GB : Int), .slice a3 n3 c3, .slice a4 n4 c4, .int .i64 (NB : Int)] 84)).heap[w3.heap.size]? = some (.cells #[.int .i64 (m : Int), .int .i64 (GB : Int), .slice a3 n3 c3, .slice a4 n4 c4, .int .i64 (NB : Int)] 84 (0, 0))) := HXB.out
 by_cases h1 : 0 < GA
 ·
  by_cases h2 : GB ≤ GA
  ·
   have hc2 : decide (GB ≤ GA) = true := by simpa using h2
   have hT : T = ⟨0, readL A, false⟩ := by rw [HT0.out, if_pos ⟨by rw [← HGA.out]; exact h1, by rw [← HGA.out, ← HGB.out]; exact h2⟩]
   have HTT := Lib.hid hT
   clear hT
   go_upto_region 12 with fail
   go_wp2_with (first | (refine wpList_load_row rfl 84 (.tmp 4) rfl gx rfl 84 #[.int .i64 0, .int .i64 (GA : Int), .slice a1 n1 c1, .slice a2 n2 c2, .int .i64 (NA : Int)] (0, 0) _ HRA.out Try.underlying84 rfl HSZ1.out ?_) | fail)
   go_ret2
   have h9 := OpenPost.mk' (g := g) (from_ := 0) HTT.out (gl := w3.heap.size + 1) (by simp) HMA4.out HB4.out
   rw [← HGA.out, ← HNA.out, show ((0 : Nat) : Int) = 0 from rfl] at h9
   exact h9
  ·
   have hc2 : decide (GB ≤ GA) = false := by simpa using h2
   have hT : T = ⟨m, readL B, false⟩ := by rw [HT0.out, if_neg (fun e => h2 (by rw [HGA.out, HGB.out]; exact e.2)), HM.out]
   have HTT := Lib.hid hT
   clear hT
   go_upto_region 13 with fail
   go_wp2_with (first | (refine wpList_load_row rfl 84 (.tmp 6) rfl w3.heap.size rfl 84 #[.int .i64 (m : Int), .int .i64 (GB : Int), .slice a3 n3 c3, .slice a4 n4 c4, .int .i64 (NB : Int)] (0, 0) _ HRB.out Try.underlying84 rfl HSZ2.out ?_) | fail)
   go_ret2
   have h9 := OpenPost.mk' (g := g) (from_ := m) HTT.out (gl := w3.heap.size + 1) (by simp) HMB4.out HB4.out
   rw [← HGB.out, ← HNB.out] at h9
   exact h9
 ·
  have hT : T = ⟨m, readL B, false⟩ := by rw [HT0.out, if_neg (fun e => h1 (by rw [HGA.out]; exact e.1)), HM.out]
  have HTT := Lib.hid hT
  clear hT
  go_upto_region 13 with fail
  go_wp2_with (first | (refine wpList_load_row rfl 84 (.tmp 6) rfl w3.heap.size rfl 84 #[.int .i64 (m : Int), .int .i64 (GB : Int), .slice a3 n3 c3, .slice a4 n4 c4, .int .i64 (NB : Int)] (0, 0) _ HRB.out Try.underlying84 rfl HSZ2.out ?_) | fail)
  go_ret2
  have h9 := OpenPost.mk' (g := g) (from_ := m) HTT.out (gl := w3.heap.size + 1) (by simp) HMB4.out HB4.out
  rw [← HGB.out, ← HNB.out] at h9
  exact h9
theorem Open_off (w : World) (g n : Nat) (F : Nat → Prop) (D : DK) (h : DX w g F n D) (hoff : D.off = true) :
  Calls Try.prog 13 #[.pointer (some ⟨g, 0, none⟩)] w fun e w' => e = .returned (.tuple #[.pointer none, .int .i64 7]) ∧ w = w' := by
 have ho := Off_x w g n F D h
 rw [hoff] at ho
 clear h hoff
 go_enter Try.func13, Try.ntmps13
 go_wp2_with fail
 refine ho.mono ?_
 rintro e w' ⟨rfl, rfl⟩
 clear ho
 go_wp2_with fail
 go_ret2
 exact ⟨rfl, rfl⟩
theorem Open_few (w : World) (g n : Nat) (F : Nat → Prop) (D : DK) (h : DX w g F n D) (hoff : D.off = false) (hn : n < 4) :
  Calls Try.prog 13 #[.pointer (some ⟨g, 0, none⟩)] w fun e w' => e = .returned (.tuple #[.pointer none, .int .i64 3]) ∧ w = w' := by
 have ho := Off_x w g n F D h
 rw [hoff] at ho
 have hbk := Blocks_x w g n F D h
 have hn4 : decide ((n : Int) < 4) = true := by simp; omega
 clear h hoff hn
 go_enter Try.func13, Try.ntmps13
 go_wp2_with fail
 refine ho.mono ?_
 rintro e w' ⟨rfl, rfl⟩
 clear ho
 go_wp2_with fail
 refine hbk.mono ?_
 rintro e w' ⟨rfl, rfl⟩
 clear hbk
 go_wp2_with fail
 go_ret2
 exact ⟨rfl, rfl⟩
theorem LX.mine {w : World} {gl g : Nat} {F : Nat → Prop} {T : LT} (h : LX w gl F g T) : F gl := by
 obtain ⟨vsn, vrc, h1, h2, h3, h4⟩ := h
 exact h3
theorem LX.lt {w : World} {gl g : Nat} {F : Nat → Prop} {T : LT} (h : LX w gl F g T) (k : Nat) (hk : F k) : k < w.heap.size := by
 obtain ⟨vsn, vrc, h1, h2, h3, h4⟩ := h
 exact h4 k hk
theorem Gen_any (w : World) (gl g : Nat) (F : Nat → Prop) (T : LT) (h : LX w gl F g T) :
  Calls Try.prog 21 #[.pointer (some ⟨gl, 0, none⟩)] w fun e w' => e = .returned (.int .i64 (T.half.gen : Int)) ∧ w = w' := by
 obtain ⟨vsn, vrc, h1, h2, h3, h4⟩ := h
 have hc := h1.cell (j := 2) rfl
 clear h1 h2 h3 h4
 go_enter Try.func21, Try.ntmps21
 go_wp2_with fail
 go_ret
 exact ⟨rfl, rfl⟩
theorem Snap_any (w : World) (gl g : Nat) (F : Nat → Prop) (T : LT) (h : LX w gl F g T) (hl : T.half.snap.length ≤ 1000000) :
  Calls Try.prog 24 #[.pointer (some ⟨gl, 0, none⟩)] w (RetB 5 w T.half.snap) := by
 obtain ⟨vsn, vrc, h1, h2, h3, h4⟩ := h
 have hc := h1.cell (j := 3) rfl
 have hcl := BClone_any w vsn _ h2.1.bs hl
 clear h1 h2 h3 h4
 go_enter Try.func24, Try.ntmps24
 go_wp2_with fail
 refine hcl.mono ?_
 clear hcl
 rintro e w' ⟨v, rfl, hv, hb⟩
 go_wp2_with fail
 go_ret
 exact ⟨_, rfl, hv, hb⟩
end Cam
