import Derived.Test.YtlnclfiiplpaiaaDkW
import Derived.Test.YtlnclfiiplpaiaaBez
import Derived.Deep.WholeRow
/- disk.Disk: Sync. -/
namespace Cam
open Go Go.RowKit Go.Proofs
theorem zero65 : ∀ w, (zeroValue 100).run Try.prog w = .ok (.agg (fW (0, zero64)).toArray) w := (zero_of_info (n := 65) (by kernel_rfl)).1
theorem size65 : (Try.prog.info? 100).map (·.size) = some 65 := by kernel_rfl
theorem size65_of {x : Nat × List UInt8} (h : x.2.length = 64) : (Try.prog.info? 100).map (·.size) = some (fW x).length := by rw [fW_length h]; exact size65
theorem DM.openAt {w : World} {g gs gn n : Nat} {a : Option Addr} {m c : Nat} {D : DK} (h : DM w g gs gn (.slice a m c) n D) {i : Nat} (hi : i < D.op.length) : ∃ b, a = some ⟨b, 0, none⟩ ∧ w.rangeAt b (i * 65) (fW D.op[i]) := by
 obtain ⟨h1, h2⟩ := h.ho
 rcases h2 with ⟨e, h0⟩ | ⟨b, cap, cur, e, hg, hh, hn, hm, hsz, htk⟩
 ·
  omega
 ·
  simp only [Value.slice.injEq] at e
  obtain ⟨rfl, rfl, rfl⟩ := e
  refine ⟨b, rfl, fun j v hv => ?_⟩
  have hat := flatW_at (f := fW) (W := 65) (fun x hx => fW_length (h.ok.op x hx).2) hi j v hv
  rw [← htk] at hat
  unfold World.cell?
  rw [hh]
  have hlt := (List.getElem?_eq_some_iff.1 hat).1
  rw [List.length_take] at hlt
  rw [List.getElem?_take_of_lt (by omega)] at hat
  simpa using hat
theorem DM.setSyn {w : World} {g gs gn : Nat} {vo : Value} {n : Nat} {D : DK} (h : DM w g gs gn vo n D) {k : Nat} (hk : k < n) {b : List UInt8} (hb : b.length = 64) : DM (w.setCells gs (k * 64) (bvs b)) g gs gn vo n { D with syn := D.syn.set k b } := by
 have hkk := setCells_kept gs (bvs b) (k * 64) w
 obtain ⟨l1, l2, l3⟩ := h.lt
 have ok := h.ok
 have hW : ∀ a ∈ D.syn, (bvs a).length = 64 := fun a ha => by rw [bvs_length]; exact ok.syn.2 a ha
 have hkn : k < D.syn.length := by rw [ok.syn.1]; exact hk
 refine ⟨h.hd.kept hkk (by omega), ?_, h.hn.kept hkk (by omega), ?_, h.lt, ⟨ok.n1, ⟨by simp [ok.syn.1], fun x hx => ?_⟩, ok.now, ok.op, ok.few, ok.arm⟩⟩
 ·
  have := h.hs.puts (vs := bvs b) (o := k * 64) (by rw [flatW_length hW, bvs_length, hb]; have := Nat.mul_le_mul_right 64 hkn; rw [Nat.succ_mul] at this; exact this)
  rw [flatW_set hW hkn b (by rw [bvs_length, hb])] at this
  exact this
 ·
  refine ⟨h.ho.1, ?_⟩
  rcases h.ho.2 with h2 | ⟨c, cap, cur, hv, hg, hh, r⟩
  ·
   exact Or.inl h2
  ·
   have hlt : g < c := (h.row c (by rw [hv]; rfl)).1
   exact Or.inr ⟨c, cap, cur, hv, hg, (hkk.block c (Array.getElem?_eq_some_iff.1 hh).1 (by omega)).trans hh, r⟩
 ·
  rcases List.mem_or_eq_of_mem_set hx with h1 | rfl
  ·
   exact ok.syn.2 x h1
  ·
   exact hb
theorem DM.clear {w : World} {g gs gn : Nat} {vo : Value} {n : Nat} {D : DK} (h : DM w g gs gn vo n D) : DM (w.setCell ⟨g, 2, none⟩ (.slice none 0 0)) g gs gn (.slice none 0 0) n { D with op := [] } := by
 have hk : Kept (fun k => k = g) w (w.setCell ⟨g, 2, none⟩ (.slice none 0 0)) := (Kept.refl _ w).setCell _ _ rfl
 obtain ⟨l1, l2, l3⟩ := h.lt
 have ok := h.ok
 exact ⟨h.hd.put 2 _, h.hs.kept hk (by omega), h.hn.kept hk (by omega), World.ownsRow_nil _ _ _ _, h.lt, ⟨ok.n1, ok.syn, ok.now, (fun x hx => by cases hx), by simp, ok.arm⟩⟩
def sets (s : List (List UInt8)) (l : List (Nat × List UInt8)) : List (List UInt8) := l.foldl (fun s x => s.set x.1 x.2) s
theorem sets_snoc (s : List (List UInt8)) (l : List (Nat × List UInt8)) (x : Nat × List UInt8) : sets s (l ++ [x]) = (sets s l).set x.1 x.2 := by simp [sets]
theorem keepS4 {W : World} {g gs x o o' m : Nat} {v u : Value} {cs vs : List Value} (h : W.cell? ⟨g, 0, none⟩ = some v ∧ W.cell? ⟨x, 0, none⟩ = some u ∧ W.rangeAt x 1 cs ∧ W.there gs o m) (hg : g ≠ gs) (hx : x ≠ gs) :
  (W.setCells gs o' vs).cell? ⟨g, 0, none⟩ = some v ∧ (W.setCells gs o' vs).cell? ⟨x, 0, none⟩ = some u ∧ (W.setCells gs o' vs).rangeAt x 1 cs ∧ (W.setCells gs o' vs).there gs o m :=
 ⟨by rw [World.cell?_setCells_out gs vs o' W ⟨g, 0, none⟩ (fun e _ => absurd e hg)]; exact h.1, by rw [World.cell?_setCells_out gs vs o' W ⟨x, 0, none⟩ (fun e _ => absurd e hx)]; exact h.2.1, World.rangeAt_setCells_apart h.2.2.1 gs o' vs (.inl hx), World.there_setCells h.2.2.2 gs o' vs⟩
def dSync (D : DK) : Int × DK := if D.off = true then (7, D) else if (dLast D).1 = true then (7, (dLast D).2) else (0, { (dLast D).2 with syn := sets D.syn D.op, op := [] })
theorem dLast_same (D : DK) : (dLast D).2.syn = D.syn ∧ (dLast D).2.now = D.now ∧ (dLast D).2.op = D.op := by
 unfold dLast
 split
 ·
  exact ⟨rfl, rfl, rfl⟩
 ·
  split <;> exact ⟨rfl, rfl, rfl⟩
set_option maxRecDepth 100000 in
set_option maxHeartbeats 3200000 in
theorem Sync_any (w : World) (g gs gn : Nat) (vo : Value) (n : Nat) (D : DK) (h : DM w g gs gn vo n D) :
  Calls Try.prog 44 #[.pointer (some ⟨g, 0, none⟩)] w fun e w' => e = .returned (.int .i64 (dSync D).1) ∧ DPost w g gs gn vo n (dSync D).2 w' := by
 obtain ⟨a, c, rfl, _, _⟩ := (Sl.of_owns h.ho).shape
 obtain ⟨m, hm⟩ : ∃ m, m = D.op.length := ⟨_, rfl⟩
 have hm6 := h.ok.few
 rw [← hm] at h hm6 ⊢
 obtain ⟨hc0, hc1, hc2, hc3, hc4, hc5⟩ := h.cells
 obtain ⟨o, ho⟩ : ∃ o, o = D.off := ⟨_, rfl⟩
 rw [← ho] at hc3
 cases o with
 | true =>
  have HD : Hid (dSync D = (7, D)) := by show _ = _; unfold dSync; rw [if_pos ho.symm]
  have Hh := Lib.hid h
  clear ho h
  go_enter Try.func44, Try.ntmps44
  go_wp2_with fail
  go_ret
  rw [HD.out]
  exact ⟨rfl, _, Hh.out, Kept.refl _ _, fun k hk => .inl hk⟩
 | false =>
  have hl := last_any w g gs gn _ n D h
  obtain ⟨s1, s2, s3⟩ := dLast_same D
  obtain ⟨lb, hlb⟩ : ∃ lb, lb = (dLast D).1 := ⟨_, rfl⟩
  obtain ⟨D1, hD1⟩ : ∃ D1, D1 = (dLast D).2 := ⟨_, rfl⟩
  rw [← hlb, ← hD1] at hl
  rw [← hD1] at s1 s2 s3
  have HD : Hid (dSync D = if lb = true then (7, D1) else (0, { D1 with syn := sets D1.syn D1.op, op := [] })) := by
   show _ = _
   unfold dSync
   rw [if_neg (by rw [← ho]; simp), ← hlb, ← hD1, s1, s3]
  have hm1 : D1.op.length = m := by rw [s3, hm]
  clear ho hlb hD1 s1 s2 s3 h hm
  cases lb with
  | true =>
   go_enter Try.func44, Try.ntmps44
   go_wp2_with (first | (go_at_call 62; refine hl.mono ?_; rintro e w1 ⟨rfl, hd1, hk1⟩) | fail)
   go_ret
   rw [HD.out]
   exact ⟨rfl, _, hd1, hk1.weaken (fun i e => .inl e), fun k hk => .inl hk⟩
  | false =>
   go_enter Try.func44, Try.ntmps44
   go_wp2_with (first | (go_at_call 62; refine hl.mono ?_; rintro e w1 ⟨rfl, hd1, hk1⟩; obtain ⟨hx0, hx1, hx2, hx3, hx4, hx5⟩ := hd1.cells) | fail)
   have Hd1 := Lib.hid hd1
   have hl6 : D1.op.length = m := hm1
   have hS0 : sets D1.syn (D1.op.take 0) = D1.syn := rfl
   clear hx0 hx1 hx3 hx4 hx5 hl
   go_wp2_with fail
   go_loopw [18] (fun i wr => ∃ j : Nat, j ≤ m ∧ i = .int .i64 j ∧ DM wr g gs gn (.slice a m c) n { D1 with syn := sets D1.syn (D1.op.take j) } ∧ Kept (fun k => k = gs) w1 wr) (fun i _ => m - (intOf i).toNat)
   case atStart => exact ⟨0, Nat.zero_le _, rfl, Hd1.out, Kept.refl _ _⟩
   case round =>
    obtain ⟨j, hj, rfl, hdr, hkr⟩ := hrel
    by_cases hlt : j < m
    ·
     obtain ⟨bo, rfl, hran⟩ := hdr.openAt (i := j) (by show j < D1.op.length; omega)
     obtain ⟨x, hx⟩ : ∃ x, x = D1.op[j]'(by omega) := ⟨_, rfl⟩
     obtain ⟨k, b⟩ := x
     have hop := hdr.ok.op (k, b) (by rw [hx]; exact List.getElem_mem _)
     have hset : sets D1.syn (D1.op.take (j + 1)) = (sets D1.syn (D1.op.take j)).set k b := by
      rw [take_snoc D1.op j (by omega), sets_snoc, ← hx]
     rw [show (({ D1 with syn := sets D1.syn (D1.op.take j) } : DK).op[j]'(by show j < D1.op.length; omega)) = (k, b) from hx.symm] at hran
     obtain ⟨hkn, hbl⟩ := hop
     simp only at hkn hbl
     have hlt0 := hdr.hd.lt
     obtain ⟨l1, l2, l3⟩ := hdr.lt
     have hy0 := hdr.cells.1
     have hn1 := hdr.ok.n1
     have hbx := (HC.new (w := wr) (C := fW (0, zero64)) (t := 100))
     have Hth := Lib.hid (hbx.there (o := 0) (n := (fW (k, b)).length) (by rw [fW_length (x := (k, b)) hbl, fW_length (x := (0, zero64)) zero64_length]; omega))
     have hbx2 := hbx.puts (vs := fW (k, b)) (o := 0) (by rw [fW_length (x := (k, b)) hbl, fW_length (x := (0, zero64)) zero64_length]; omega)
     rw [show splice (fW (0, zero64)) 0 (fW (k, b)) = fW (k, b) by unfold splice; rw [List.take_zero, List.nil_append, Nat.zero_add, List.drop_of_length_le (by rw [fW_length (x := (k, b)) hbl, fW_length (x := (0, zero64)) zero64_length]; omega), List.append_nil]] at hbx2
     have hk2 : Kept (fun i => i = wr.heap.size) wr ((wr.alloc (.cells (fW (0, zero64)).toArray 100)).setCells wr.heap.size 0 (fW (k, b))) := ((Kept.refl (fun i => i = wr.heap.size) wr).alloc (.cells (fW (0, zero64)).toArray 100)).trans (setCells_kept _ _ _ _) (fun _ _ e => e)
     have hd2 := hdr.kept hk2 (fun i hi e => by
      rcases hi with rfl | rfl | rfl | hi
      ·
       omega
      ·
       omega
      ·
       omega
      ·
       have := (hdr.row i hi).2
       omega)
     have Hhdr := Lib.hid hdr
     have Hsz65 := Lib.hid (size65_of (x := (k, b)) hbl)
     have hsz := size64_of hbl
     have hun := Try.underlying36
     have hone : ∀ v ∈ bvs b, v.oneCell' = true := bs_oneCell b
     have Hset := Lib.hid hset
     have Hkr := Lib.hid hkr
     have Hx := Lib.hid hx
     have hkb : (k : Int) < (n : Int) := by omega
     have hzv := zero65
     clear hdr hset hkr hbx hx
     go_wp2_with (first
      | (refine wpList_load_mid rfl 100 (.tmp 20) rfl bo (j * 65) rfl (fW (k, b)) _ hran Try.underlying100 rfl Hsz65.out ?_)
      | (refine wpList_store_mid rfl 100 (.tmp 4) (.tmp 21) rfl wr.heap.size 0 (fW (k, b)).toArray rfl rfl (by simpa using Hth.out) (by simpa using Hsz65.out) (all_oneCell_toArray (fW_one _)) ?_)
      | fail)
     change Code.wp _ _ _ _ ((wr.alloc (.cells (fW (0, zero64)).toArray 100)).setCells wr.heap.size 0 (fW (k, b)))
     have hxs : wr.heap.size ≠ gs := by omega
     have hgs : g ≠ gs := by omega
     generalize (wr.alloc (.cells (fW (0, zero64)).toArray 100)).setCells wr.heap.size 0 (fW (k, b)) = W2 at *
     have hS : W2.drew.cell? ⟨g, 0, none⟩ = some (.slice (some ⟨gs, 0, none⟩) n n) ∧ W2.drew.cell? ⟨wr.heap.size, 0, none⟩ = some (.int .i64 (k : Int)) ∧ W2.drew.rangeAt wr.heap.size 1 (bvs b) ∧ W2.drew.there gs (k * 64) (bvs b).length :=
      ⟨hd2.cells.1, hbx2.cell rfl, hbx2.range 1 (fun i v hv => by rw [Nat.add_comm]; exact hv), blockRoom hd2.hs hd2.ok.syn.2 (by rw [hd2.ok.syn.1]; exact hkn) hbl⟩
     have HD3 := Lib.hid ((hd2.below (Below.refl _ _).drew).setSyn hkn hbl)
     have HK3 := Lib.hid (keptDrew hk2)
     have Hbl := Lib.hid hbl
     clear hbx2 hd2 hk2 hbl
     go_region_held3 (fun w' => w'.cell? ⟨g, 0, none⟩ = some (.slice (some ⟨gs, 0, none⟩) n n) ∧ w'.cell? ⟨wr.heap.size, 0, none⟩ = some (.int .i64 (k : Int)) ∧ w'.rangeAt wr.heap.size 1 (bvs b) ∧ w'.there gs (k * 64) (bvs b).length) (first | assumption | exact keepS4 (by assumption) hgs hxs) (fail)
     go_wp2_with fail
     refine ⟨⟨j + 1, by omega, by push_cast; rfl, ?_, ?_⟩, by simp [intOf]; omega⟩
     ·
      rw [Hset.out]
      exact HD3.out
     ·
      have hww := Hkr.out.size
      refine (Hkr.out.trans (S := fun i => i = gs) (T := fun i => i = gs) ⟨HK3.out.os, HK3.out.tape, HK3.out.output, HK3.out.size, fun i hi hn => HK3.out.block i hi (by omega)⟩ (fun _ _ e => e)).trans (setCells_kept gs (bvs b) (k * 64) _) (fun _ _ e => e)
    ·
     obtain rfl : j = m := by omega
     rw [List.take_of_length_le (by omega)] at hdr
     have hf2 := hdr.hd.frozen 2
     have hy2 := hdr.cells.2.2.1
     have HD3 := Lib.hid hdr.clear
     have Hkr := Lib.hid hkr
     clear hdr hkr
     go_wp2_with fail
     go_ret
     rw [HD.out]
     refine ⟨rfl, .slice none 0 0, HD3.out, ?_, fun i hi => by cases hi⟩
     exact ((hk1.weaken (T := DS g gs gn (.slice a j c)) (fun i e => .inl e)).trans Hkr.out (fun i _ e => .inr (.inl e))).trans (DM.keptPut) (fun i _ e => .inl e)
end Cam
