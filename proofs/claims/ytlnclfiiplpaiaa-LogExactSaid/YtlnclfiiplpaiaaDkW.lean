import Derived.Test.YtlnclfiiplpaiaaDkO
/- disk.Disk: Write. -/
namespace Cam
open Go Go.RowKit Go.Proofs
theorem keptDrew {S : Nat → Prop} {w w' : World} (h : Kept S w w') : Kept S w w'.drew := ⟨h.os, h.tape, h.output, h.size, h.block⟩
theorem DM.head {W w2 : World} {g gs gn : Nat} {vo : Value} {n : Nat} {D : DK} {o : Obj} (h : DM W g gs gn vo n D) (hg : (W.alloc o).grownBy w2 vo.ownBlock) : w2.cell? ⟨g, 2, none⟩ = some vo ∧ w2.frozen? ⟨g, 2, none⟩ = false := by
 have hA := (h.alloc o).hd.kept (Kept.of_grown hg) (fun e => by have := (h.row g e).1; omega)
 exact ⟨hA.cell rfl, hA.frozen 2⟩
theorem keepW {W : World} {g gn x o o' m : Nat} {v : Value} {cs vs : List Value} (h : W.cell? ⟨g, 1, none⟩ = some v ∧ W.rangeAt x 0 cs ∧ W.there gn o m) (hg : g ≠ gn) (hx : x ≠ gn) :
  (W.setCells gn o' vs).cell? ⟨g, 1, none⟩ = some v ∧ (W.setCells gn o' vs).rangeAt x 0 cs ∧ (W.setCells gn o' vs).there gn o m :=
 ⟨by rw [World.cell?_setCells_out gn vs o' W ⟨g, 1, none⟩ (fun e _ => absurd e hg)]; exact h.1, World.rangeAt_setCells_apart h.2.1 gn o' vs (.inl hx), World.there_setCells h.2.2 gn o' vs⟩
def dPut (D : DK) (k : Nat) (b : List UInt8) : DK := { D with now := D.now.set k b, op := D.op ++ [(k, b)] }
theorem dRight_ok {n : Nat} {D : DK} (h : D.off = false) {k : Nat} (hk : k < n) : dRight n D (k : Int) = 0 := by
 unfold dRight
 rw [if_neg (by simp [h]), if_neg (by omega)]
set_option maxRecDepth 100000 in
set_option maxHeartbeats 3200000 in
theorem Write_ok (w : World) (g gs gn : Nat) (vo : Value) (n : Nat) (D : DK) (h : DM w g gs gn vo n D) (k : Nat) (b : List UInt8) (hoff : D.off = false) (hk : k < n) (hb : b.length = 64) (hf : D.op.length < 1000000) :
  Calls Try.prog 54 #[.pointer (some ⟨g, 0, none⟩), .int .i64 (k : Int), .agg (bvs b).toArray] w fun e w' => e = .returned (.int .i64 (if (dLast (dPut D k b)).1 = true then 7 else 0)) ∧ DPost w g gs gn vo n (dLast (dPut D k b)).2 w' := by
 obtain ⟨lb, hlb⟩ : ∃ lb, lb = (dLast (dPut D k b)).1 := ⟨_, rfl⟩
 obtain ⟨DL, hDL⟩ : ∃ DL, DL = (dLast (dPut D k b)).2 := ⟨_, rfl⟩
 rw [← hlb, ← hDL]
 have HLB : Hid ((dLast (dPut D k b)).1 = lb) := hlb.symm
 have HLD : Hid ((dLast (dPut D k b)).2 = DL) := hDL.symm
 clear hlb hDL
 have hA := h.alloc (.cells (bvs b).toArray 36)
 have hri := right_any _ g gs gn vo n D hA (k : Int)
 rw [dRight_ok hoff hk] at hri
 have hlt := h.hd.lt
 obtain ⟨l1, l2, l3⟩ := h.lt
 have hbox : HC (w.alloc (.cells (bvs b).toArray 36)) w.heap.size (bvs b) := HC.new
 have hc1 := hA.cells.2.1
 have hn1 := h.ok.n1
 have hsz := size64_of hb
 have hS : (w.alloc (.cells (bvs b).toArray 36)).drew.cell? ⟨g, 1, none⟩ = some (.slice (some ⟨gn, 0, none⟩) n n) ∧ (w.alloc (.cells (bvs b).toArray 36)).drew.rangeAt w.heap.size 0 (bvs b) ∧ (w.alloc (.cells (bvs b).toArray 36)).drew.there gn (k * 64) (bvs b).length :=
  ⟨hc1, hbox.bytes, blockRoom hA.hn hA.ok.now.2 (by rw [hA.ok.now.1]; exact hk) hb⟩
 have hun := Try.underlying36
 have hone : ∀ v ∈ bvs b, v.oneCell' = true := bs_oneCell b
 have hd1 := (hA.below (Below.refl _ _).drew).setNow hk hb
 have hk1 : Kept (fun j => j = gn) w ((w.alloc (.cells (bvs b).toArray 36)).drew.setCells gn (k * 64) (bvs b)) := (keptDrew ((Kept.refl (fun j => j = gn) w).alloc (.cells (bvs b).toArray 36))).trans (setCells_kept gn (bvs b) (k * 64) _) (fun _ _ e => e)
 have hbx1 : ((w.alloc (.cells (bvs b).toArray 36)).drew.setCells gn (k * 64) (bvs b)).rangeAt w.heap.size 0 (bvs b) := World.rangeAt_setCells_apart hS.2.1 _ _ _ (.inl (by omega))
 have Hsz := Lib.hid hsz
 have Hbl := Lib.hid hb
 have Hk := Lib.hid hk
 have hgn : g ≠ gn := by omega
 have hxn : w.heap.size ≠ gn := by omega
 have hkb : (k : Int) < (n : Int) := by omega
 have Hri := Lib.hid hri
 have HK1 := Lib.hid hk1
 have HX1 := Lib.hid hbx1
 obtain ⟨D1, hD1⟩ : ∃ D1, D1 = ({ D with now := D.now.set k b } : DK) := ⟨_, rfl⟩
 rw [← hD1] at hd1
 have Hfew : Hid (D1.op.length < 1000000) := by show _ < _; rw [hD1]; exact hf
 have HD1 : Hid (dPut D k b = { D1 with op := D1.op ++ [(k, b)] }) := by show _ = _; rw [hD1]; rfl
 have HM1 := Lib.hid hd1
 clear hri hA hb hf hc1 hbox hd1 hk1 hbx1 hD1 hoff
 go_enter Try.func54, Try.ntmps54
 go_wp2_with fail
 refine Hri.out.mono ?_
 rintro e w1 ⟨rfl, rfl⟩
 go_wp2_with fail
 go_region_held3 (fun w' => w'.cell? ⟨g, 1, none⟩ = some (.slice (some ⟨gn, 0, none⟩) n n) ∧ w'.rangeAt w.heap.size 0 (bvs b) ∧ w'.there gn (k * 64) (bvs b).length) (first | assumption | exact keepW (by assumption) hgn hxn) (fail)
 clear hsz hone hS
 have hdW := HM1.out
 have hKW := HK1.out
 have hran := HX1.out
 clear HM1 HK1 HX1
 generalize (w.alloc (.cells (bvs b).toArray 36)).drew.setCells gn (k * 64) (bvs b) = W0 at *
 go_wp2_with fail
 refine wp_region_any (by kernel_rfl) ?_
 change wpAny _ _ _ _ _ _ _ (World.drew _)
 replace hdW := hdW.below (Below.refl _ _).drew
 replace hKW : Kept (fun j => j = gn) w W0.drew := keptDrew hKW
 replace hran : W0.drew.rangeAt w.heap.size 0 (bvs b) := hran
 generalize W0.drew = W at *
 have hc2 := hdW.cells.2.2.1
 have hdA := hdW.alloc (.cells (fW (k, b)).toArray 100)
 have hc2A := hdA.cells.2.2.1
 have Hfin : Hid (∀ vo2 wa wb, DM wb g gs gn vo2 n DL → Kept (DS g gs gn vo) W wa → Kept (fun j => j = g) wa wb → (∀ j, vo2.ownBlock = some j → vo.ownBlock = some j ∨ W.heap.size ≤ j) → DPost w g gs gn vo n DL wb) := by
  show ∀ vo2 wa wb, _
  intro vo2 wa wb h1 h2 h3 h4
  refine ⟨vo2, h1, ((hKW.weaken (T := DS g gs gn vo) (fun i e => .inr (.inr (.inl e)))).trans h2 (fun _ _ e => e)).trans h3 (fun _ _ e => .inl e), fun j hj => ?_⟩
  rcases h4 j hj with e | e
  ·
   exact .inl e
  ·
   exact .inr (Nat.le_trans hKW.size e)
 clear hKW
 refine wpAny_take (i := 0) (v := .pointer (some ⟨g, 0, none⟩)) rfl (by kernel_rfl) (by kernel_rfl) (by kernel_rfl) (fun _ _ _ h => h) (Or.inl ⟨by rfl, by intro w; go_simp⟩) ?_
 try simp only [Act.put]
 refine wpAny_take (i := 1) (v := .pointer (some ⟨g, 0, none⟩)) rfl (by kernel_rfl) (by kernel_rfl) (by kernel_rfl) (fun _ _ _ h => h) (Or.inl ⟨by rfl, by intro w; go_simp⟩) ?_
 try simp only [Act.put]
 refine wpAny_take (i := 2) (v := .pointer (some ⟨g, 0, none⟩)) rfl (by kernel_rfl) (by kernel_rfl) (by kernel_rfl) (fun _ _ _ h => h) (Or.inl ⟨by rfl, by intro w; go_simp⟩) ?_
 try simp only [Act.put]
 refine wpAny_take (i := 3) (v := .pointer (some ⟨g, 2, none⟩)) rfl (by kernel_rfl) (by kernel_rfl) (by kernel_rfl) (fun _ _ _ h => h) (Or.inl ⟨by rfl, by intro w; go_simp⟩) ?_
 try simp only [Act.put]
 refine wpAny_take (i := 5) (v := .int .i64 k) rfl (by kernel_rfl) (by kernel_rfl) (by kernel_rfl) (fun _ _ _ h => h) (Or.inl ⟨by rfl, by intro w; go_simp⟩) ?_
 try simp only [Act.put]
 refine wpAny_ready (rs := [4, 6]) (by kernel_rfl) (by simp) ?_
 refine AllReady.cons rfl (fun K hK => ?_) (AllReady.cons rfl (fun K hK => ?_) AllReady.nil)
 ·
  go_simp
  refine hK _ _ ?_
  clear hK K
  try simp only [Act.put]
  refine wpAny_ready (rs := [6]) (by kernel_rfl) (by simp) ?_
  refine AllReady.cons rfl (fun K hK => ?_) AllReady.nil
  refine step_load_mid rfl 36 (.tmp 5) rfl w.heap.size 0 rfl (bvs b) _ hran Try.underlying36 rfl Hsz.out ?_
  refine hK _ _ ?_
  clear hK K
  try simp only [Act.put]
  refine wpAny_ready (rs := [7]) (by kernel_rfl) (by simp) ?_
  refine AllReady.cons rfl (fun K hK => ?_) AllReady.nil
  refine step_build_write rfl (.tmp 26) (.tmp 27) rfl k b Hbl.out rfl rfl ?_
  refine hK _ _ ?_
  clear hK K
  try simp only [Act.put]
  refine wpAny_ready (rs := [8]) (by kernel_rfl) (by simp) ?_
  refine AllReady.cons rfl (fun K hK => ?_) AllReady.nil
  refine step_lay_write rfl (.tmp 28) rfl (fW (k, b)) (fW_length Hbl.out) rfl ?_
  refine hK _ _ ?_
  clear hK K
  try simp only [Act.put]
  refine wpAny_ready (rs := [9]) (by kernel_rfl) (by simp) ?_
  refine AllReady.cons rfl (fun K hK => ?_) AllReady.nil
  refine step_append_write rfl (.tmp 25) (.tmp 29) rfl (v := vo) (vx := .slice (some ⟨W.heap.size, 0, none⟩) 1 1) (xs := flatW fW D1.op) (ys := fW (k, b)) rfl rfl hdA.ho (Sl.lit (fW_length Hbl.out)) (fW_one _) (by have := Hfew.out; omega) (by have := hdA.hd.lt; omega) ?_
  intro a' c' w2 ho2 hg2 hat2
  obtain ⟨hcx, hfx⟩ := DM.head hdW hg2
  have hD2 := hdW.push Hk.out Hbl.out Hfew.out ho2 hg2 hat2
  obtain ⟨N, hN⟩ : ∃ N, N = D1.op.length + 1 := ⟨_, rfl⟩
  rw [← hN] at hD2 ⊢
  have HD2 := Lib.hid hD2
  clear hN hD2 hat2 ho2
  refine hK _ _ ?_
  clear hK K
  try simp only [Act.put]
  refine wpAny_take (i := 10) (v := .pointer (some ⟨g, 0, none⟩)) rfl (by kernel_rfl) (by kernel_rfl) (by kernel_rfl) (fun _ _ _ h => h) (Or.inl ⟨by rfl, by intro w; go_simp⟩) ?_
  try simp only [Act.put]
  refine wpAny_take (i := 11) (v := .pointer (some ⟨g, 2, none⟩)) rfl (by kernel_rfl) (by kernel_rfl) (by kernel_rfl) (fun _ _ _ h => h) (Or.inl ⟨by rfl, by intro w; go_simp⟩) ?_
  try simp only [Act.put]
  refine wpAny_ready (rs := [12]) (by kernel_rfl) (by simp) ?_
  refine AllReady.cons rfl (fun K hK => ?_) AllReady.nil
  go_simp
  refine hK _ _ ?_
  clear hK K
  try simp only [Act.put]
  refine wpAny_done (by kernel_rfl) ?_ _
  obtain ⟨vo2, hd2, hk2, hown2⟩ := HD2.out
  clear HD2 hcx hfx
  have hl := last_any _ g gs gn vo2 n _ hd2
  rw [← HD1.out, HLB.out, HLD.out] at hl
  go_wp2_with fail
  refine hl.mono ?_
  rintro e w3 ⟨rfl, hd3, hk3⟩
  clear hl
  cases lb with
  | true =>
   go_wp2_with fail
   go_ret
   exact ⟨rfl, Hfin.out vo2 _ _ hd3 hk2 hk3 hown2⟩
  | false =>
   go_wp2_with fail
   go_ret
   exact ⟨rfl, Hfin.out vo2 _ _ hd3 hk2 hk3 hown2⟩
 ·
  refine step_load_mid rfl 36 (.tmp 5) rfl w.heap.size 0 rfl (bvs b) _ hran Try.underlying36 rfl Hsz.out ?_
  refine hK _ _ ?_
  clear hK K
  try simp only [Act.put]
  refine wpAny_ready (rs := [4, 7]) (by kernel_rfl) (by simp) ?_
  refine AllReady.cons rfl (fun K hK => ?_) (AllReady.cons rfl (fun K hK => ?_) AllReady.nil)
  ·
   go_simp
   refine hK _ _ ?_
   clear hK K
   try simp only [Act.put]
   refine wpAny_ready (rs := [7]) (by kernel_rfl) (by simp) ?_
   refine AllReady.cons rfl (fun K hK => ?_) AllReady.nil
   refine step_build_write rfl (.tmp 26) (.tmp 27) rfl k b Hbl.out rfl rfl ?_
   refine hK _ _ ?_
   clear hK K
   try simp only [Act.put]
   refine wpAny_ready (rs := [8]) (by kernel_rfl) (by simp) ?_
   refine AllReady.cons rfl (fun K hK => ?_) AllReady.nil
   refine step_lay_write rfl (.tmp 28) rfl (fW (k, b)) (fW_length Hbl.out) rfl ?_
   refine hK _ _ ?_
   clear hK K
   try simp only [Act.put]
   refine wpAny_ready (rs := [9]) (by kernel_rfl) (by simp) ?_
   refine AllReady.cons rfl (fun K hK => ?_) AllReady.nil
   refine step_append_write rfl (.tmp 25) (.tmp 29) rfl (v := vo) (vx := .slice (some ⟨W.heap.size, 0, none⟩) 1 1) (xs := flatW fW D1.op) (ys := fW (k, b)) rfl rfl hdA.ho (Sl.lit (fW_length Hbl.out)) (fW_one _) (by have := Hfew.out; omega) (by have := hdA.hd.lt; omega) ?_
   intro a' c' w2 ho2 hg2 hat2
   obtain ⟨hcx, hfx⟩ := DM.head hdW hg2
   have hD2 := hdW.push Hk.out Hbl.out Hfew.out ho2 hg2 hat2
   obtain ⟨N, hN⟩ : ∃ N, N = D1.op.length + 1 := ⟨_, rfl⟩
   rw [← hN] at hD2 ⊢
   have HD2 := Lib.hid hD2
   clear hN hD2 hat2 ho2
   refine hK _ _ ?_
   clear hK K
   try simp only [Act.put]
   refine wpAny_take (i := 10) (v := .pointer (some ⟨g, 0, none⟩)) rfl (by kernel_rfl) (by kernel_rfl) (by kernel_rfl) (fun _ _ _ h => h) (Or.inl ⟨by rfl, by intro w; go_simp⟩) ?_
   try simp only [Act.put]
   refine wpAny_take (i := 11) (v := .pointer (some ⟨g, 2, none⟩)) rfl (by kernel_rfl) (by kernel_rfl) (by kernel_rfl) (fun _ _ _ h => h) (Or.inl ⟨by rfl, by intro w; go_simp⟩) ?_
   try simp only [Act.put]
   refine wpAny_ready (rs := [12]) (by kernel_rfl) (by simp) ?_
   refine AllReady.cons rfl (fun K hK => ?_) AllReady.nil
   go_simp
   refine hK _ _ ?_
   clear hK K
   try simp only [Act.put]
   refine wpAny_done (by kernel_rfl) ?_ _
   obtain ⟨vo2, hd2, hk2, hown2⟩ := HD2.out
   clear HD2 hcx hfx
   have hl := last_any _ g gs gn vo2 n _ hd2
   rw [← HD1.out, HLB.out, HLD.out] at hl
   go_wp2_with fail
   refine hl.mono ?_
   rintro e w3 ⟨rfl, hd3, hk3⟩
   clear hl
   cases lb with
   | true =>
    go_wp2_with fail
    go_ret
    exact ⟨rfl, Hfin.out vo2 _ _ hd3 hk2 hk3 hown2⟩
   | false =>
    go_wp2_with fail
    go_ret
    exact ⟨rfl, Hfin.out vo2 _ _ hd3 hk2 hk3 hown2⟩
  ·
   refine step_build_write rfl (.tmp 26) (.tmp 27) rfl k b Hbl.out rfl rfl ?_
   refine hK _ _ ?_
   clear hK K
   try simp only [Act.put]
   refine wpAny_ready (rs := [4, 8]) (by kernel_rfl) (by simp) ?_
   refine AllReady.cons rfl (fun K hK => ?_) (AllReady.cons rfl (fun K hK => ?_) AllReady.nil)
   ·
    go_simp
    refine hK _ _ ?_
    clear hK K
    try simp only [Act.put]
    refine wpAny_ready (rs := [8]) (by kernel_rfl) (by simp) ?_
    refine AllReady.cons rfl (fun K hK => ?_) AllReady.nil
    refine step_lay_write rfl (.tmp 28) rfl (fW (k, b)) (fW_length Hbl.out) rfl ?_
    refine hK _ _ ?_
    clear hK K
    try simp only [Act.put]
    refine wpAny_ready (rs := [9]) (by kernel_rfl) (by simp) ?_
    refine AllReady.cons rfl (fun K hK => ?_) AllReady.nil
    refine step_append_write rfl (.tmp 25) (.tmp 29) rfl (v := vo) (vx := .slice (some ⟨W.heap.size, 0, none⟩) 1 1) (xs := flatW fW D1.op) (ys := fW (k, b)) rfl rfl hdA.ho (Sl.lit (fW_length Hbl.out)) (fW_one _) (by have := Hfew.out; omega) (by have := hdA.hd.lt; omega) ?_
    intro a' c' w2 ho2 hg2 hat2
    obtain ⟨hcx, hfx⟩ := DM.head hdW hg2
    have hD2 := hdW.push Hk.out Hbl.out Hfew.out ho2 hg2 hat2
    obtain ⟨N, hN⟩ : ∃ N, N = D1.op.length + 1 := ⟨_, rfl⟩
    rw [← hN] at hD2 ⊢
    have HD2 := Lib.hid hD2
    clear hN hD2 hat2 ho2
    refine hK _ _ ?_
    clear hK K
    try simp only [Act.put]
    refine wpAny_take (i := 10) (v := .pointer (some ⟨g, 0, none⟩)) rfl (by kernel_rfl) (by kernel_rfl) (by kernel_rfl) (fun _ _ _ h => h) (Or.inl ⟨by rfl, by intro w; go_simp⟩) ?_
    try simp only [Act.put]
    refine wpAny_take (i := 11) (v := .pointer (some ⟨g, 2, none⟩)) rfl (by kernel_rfl) (by kernel_rfl) (by kernel_rfl) (fun _ _ _ h => h) (Or.inl ⟨by rfl, by intro w; go_simp⟩) ?_
    try simp only [Act.put]
    refine wpAny_ready (rs := [12]) (by kernel_rfl) (by simp) ?_
    refine AllReady.cons rfl (fun K hK => ?_) AllReady.nil
    go_simp
    refine hK _ _ ?_
    clear hK K
    try simp only [Act.put]
    refine wpAny_done (by kernel_rfl) ?_ _
    obtain ⟨vo2, hd2, hk2, hown2⟩ := HD2.out
    clear HD2 hcx hfx
    have hl := last_any _ g gs gn vo2 n _ hd2
    rw [← HD1.out, HLB.out, HLD.out] at hl
    go_wp2_with fail
    refine hl.mono ?_
    rintro e w3 ⟨rfl, hd3, hk3⟩
    clear hl
    cases lb with
    | true =>
     go_wp2_with fail
     go_ret
     exact ⟨rfl, Hfin.out vo2 _ _ hd3 hk2 hk3 hown2⟩
    | false =>
     go_wp2_with fail
     go_ret
     exact ⟨rfl, Hfin.out vo2 _ _ hd3 hk2 hk3 hown2⟩
   ·
    refine step_lay_write rfl (.tmp 28) rfl (fW (k, b)) (fW_length Hbl.out) rfl ?_
    refine hK _ _ ?_
    clear hK K
    try simp only [Act.put]
    refine wpAny_ready (rs := [4]) (by kernel_rfl) (by simp) ?_
    refine AllReady.cons rfl (fun K hK => ?_) AllReady.nil
    go_simp
    refine hK _ _ ?_
    clear hK K
    try simp only [Act.put]
    refine wpAny_ready (rs := [9]) (by kernel_rfl) (by simp) ?_
    refine AllReady.cons rfl (fun K hK => ?_) AllReady.nil
    refine step_append_write rfl (.tmp 25) (.tmp 29) rfl (v := vo) (vx := .slice (some ⟨W.heap.size, 0, none⟩) 1 1) (xs := flatW fW D1.op) (ys := fW (k, b)) rfl rfl hdA.ho (Sl.lit (fW_length Hbl.out)) (fW_one _) (by have := Hfew.out; omega) (by have := hdA.hd.lt; omega) ?_
    intro a' c' w2 ho2 hg2 hat2
    obtain ⟨hcx, hfx⟩ := DM.head hdW hg2
    have hD2 := hdW.push Hk.out Hbl.out Hfew.out ho2 hg2 hat2
    obtain ⟨N, hN⟩ : ∃ N, N = D1.op.length + 1 := ⟨_, rfl⟩
    rw [← hN] at hD2 ⊢
    have HD2 := Lib.hid hD2
    clear hN hD2 hat2 ho2
    refine hK _ _ ?_
    clear hK K
    try simp only [Act.put]
    refine wpAny_take (i := 10) (v := .pointer (some ⟨g, 0, none⟩)) rfl (by kernel_rfl) (by kernel_rfl) (by kernel_rfl) (fun _ _ _ h => h) (Or.inl ⟨by rfl, by intro w; go_simp⟩) ?_
    try simp only [Act.put]
    refine wpAny_take (i := 11) (v := .pointer (some ⟨g, 2, none⟩)) rfl (by kernel_rfl) (by kernel_rfl) (by kernel_rfl) (fun _ _ _ h => h) (Or.inl ⟨by rfl, by intro w; go_simp⟩) ?_
    try simp only [Act.put]
    refine wpAny_ready (rs := [12]) (by kernel_rfl) (by simp) ?_
    refine AllReady.cons rfl (fun K hK => ?_) AllReady.nil
    go_simp
    refine hK _ _ ?_
    clear hK K
    try simp only [Act.put]
    refine wpAny_done (by kernel_rfl) ?_ _
    obtain ⟨vo2, hd2, hk2, hown2⟩ := HD2.out
    clear HD2 hcx hfx
    have hl := last_any _ g gs gn vo2 n _ hd2
    rw [← HD1.out, HLB.out, HLD.out] at hl
    go_wp2_with fail
    refine hl.mono ?_
    rintro e w3 ⟨rfl, hd3, hk3⟩
    clear hl
    cases lb with
    | true =>
     go_wp2_with fail
     go_ret
     exact ⟨rfl, Hfin.out vo2 _ _ hd3 hk2 hk3 hown2⟩
    | false =>
     go_wp2_with fail
     go_ret
     exact ⟨rfl, Hfin.out vo2 _ _ hd3 hk2 hk3 hown2⟩
end Cam
