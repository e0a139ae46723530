import Derived.Test.YtlnclfiiplpaiaaJnD
/- journal: Recs, write. -/
namespace Cam
open Go Go.RowKit Go.Proofs
def RecsPost (w : World) (R : List (List UInt8)) (e : Ending) (w' : World) : Prop := ∃ v, e = .returned v ∧ recsM w' (fun k => w.heap.size ≤ k) v R ∧ Below w.heap.size w w'
theorem recsM.cellAt {w : World} {F : Nat → Prop} {a : Option Addr} {n c : Nat} {R : List (List UInt8)} (h : recsM w F (.slice a n c) R) (hp : 0 < R.length) :
  n = R.length ∧ ∃ b off, a = some ⟨b, off, none⟩ ∧ F b ∧ b < w.heap.size ∧ ∀ i (hi : i < R.length), ∃ s : SV, w.cell? ⟨b, off + i, none⟩ = some s.v ∧ OwnB 5 w 0 s.v R[i] := by
 obtain ⟨vs, h1, h2, h3, h4⟩ := h
 obtain ⟨a9, c9, e9, _⟩ := h2.rs.shape
 simp only [Value.slice.injEq] at e9
 obtain ⟨b, off, rfl, hb, hc⟩ := Rs.at h2.rs (by omega) (by decide)
 refine ⟨e9.2.1.trans h1, b, off, rfl, ?_, hb, fun i hi => ⟨vs[i]'(by omega), ?_, (h4 i (by omega) hi).1⟩⟩
 ·
  obtain ⟨g9, c8, hv9⟩ := Joins.ownsRow_form h2.2 (by omega)
  simp only [Value.slice.injEq] at hv9
  refine h3 b ?_
  rw [show (Value.slice (some ⟨b, off, none⟩) n c).ownBlock = some b from ?_]
  rw [hv9.1]
  have := hv9.1
  simp only [Option.some.injEq, Addr.mk.injEq] at this
  rw [this.1]
  rfl
 ·
  have h9 := hc i (by omega) 0 (vs[i]'(by omega)).v rfl
  simpa using h9
set_option maxHeartbeats 1600000 in
theorem Recs_any (w : World) (gl g : Nat) (F : Nat → Prop) (T : LT) (h : LX w gl F g T) (hl : ∀ r ∈ T.half.recs, r.length ≤ 1000000) (hn : T.half.recs.length ≤ 1000000) :
  Calls Try.prog 19 #[.pointer (some ⟨gl, 0, none⟩)] w (RecsPost w T.half.recs) := by
 obtain ⟨vsn, vrc, h1, h2, h3, h4⟩ := h
 obtain ⟨ar, nr, cr, rfl, hnr, hrc⟩ := h2.2.2.named
 have hc := h1.cell (j := 4) rfl
 obtain ⟨R, hR⟩ : ∃ z, z = T.half.recs := ⟨_, rfl⟩
 rw [← hR] at hl hn hrc hnr ⊢
 have HRC := Lib.hid hrc
 have HNR := Lib.hid hnr.out
 have hnr1 : nr ≤ 1000000 ∧ (0 : Int) ≤ nr ∧ (nr : Int) ≤ 1000000 := by have := hnr.out; omega
 have HL := Lib.hid hl
 clear h1 h2 h3 h4 hrc hnr hl hR
 go_enter Try.func19, Try.ntmps19
 go_wp2_with fail
 go_loopw [3, 12] (fun v3 i wr => ∃ (k : Nat) (vs : List SV) (a : Option Addr) (q c : Nat), k ≤ nr ∧ i = .int .i64 k ∧ v3 = .slice a q c ∧ OwnR encS 1 22 wr w.heap.size (.slice a q c) vs ∧ vs.length = k ∧ Hid (∀ i (h1 : i < vs.length) (h2 : i < (R.take k).length), OwnB 5 wr w.heap.size vs[i].v (R.take k)[i]) ∧ Below w.heap.size w wr) (fun _ i _ => nr - (intOf i).toNat)
 case atStart => exact ⟨0, [], none, 0, 0, Nat.zero_le _, rfl, rfl, OwnR.empty encS_len _ _ _, rfl, fun i h1 => absurd h1 (Nat.not_lt_zero _), Below.refl _ _⟩
 case round =>
  obtain ⟨k, vs, a3, q3, c3, hk, rfl, rfl, ho, hvs, HAL, hbel⟩ := hrel
  have HO := Lib.hid ho
  have HB := Lib.hid hbel
  have HVS := Lib.hid hvs
  clear ho hbel hvs
  by_cases hlt : k < nr
  ·
   have hkl : k < R.length := by have := HNR.out; omega
   obtain ⟨hq0, b, off, rfl, hFb, hbw, hcx⟩ := HRC.out.cellAt (by omega)
   clear hq0
   obtain ⟨s, hs, hob⟩ := hcx k hkl
   obtain ⟨s1, s2, s3⟩ := s
   have hcell : wr.cell? ⟨b, off + k, none⟩ = some (.slice s1 s2 s3) := (Below.cell (p := ⟨b, off + k, none⟩) HB.out hbw).trans hs
   have hk0 : (0 : Int) ≤ k ∧ (k : Int) < nr := by omega
   have hob2 : Bs wr (.slice s1 s2 s3) R[k] := (OwnB.below hob HB.out).bs
   have hcl := BClone_any wr _ _ hob2 (HL.out _ (List.getElem_mem hkl))
   clear hcx hs hob hob2 hFb hbw
   go_wp2_with fail
   refine hcl.mono ?_
   clear hcl
   rintro e w2 ⟨v2, rfl, hv2, hb2⟩
   obtain ⟨p1, p2, p3, rfl, _, hv3⟩ := hv2.named
   have hsz := HB.out.size
   have hone : Rs encS 1 (w2.alloc (.cells #[.slice p1 p2 p3] 22)) (.slice (some ⟨w2.heap.size, 0, none⟩) 1 1) [((p1, p2, p3) : SV)] := Rs.one encS_len w2 ((p1, p2, p3) : SV) 22
   have hba : Below wr.heap.size wr (w2.alloc (.cells #[.slice p1 p2 p3] 22)) := hb2.alloc hb2.size _
   have HO2 := Lib.hid (HO.out.below hba)
   have HV2 := Lib.hid (OwnB.base (OwnB.alloc hv3 (.cells #[.slice p1 p2 p3] 22)) hsz)
   have HAL2 : Hid (∀ i (h1 : i < vs.length) (h2 : i < (R.take k).length), OwnB 5 (w2.alloc (.cells #[.slice p1 p2 p3] 22)) w.heap.size vs[i].v (R.take k)[i]) := fun i h1 h2 => OwnB.below (HAL.out i h1 h2) hba
   have HBA := Lib.hid hba
   have HONE := Lib.hid hone
   have hle : (vs.length + [((p1, p2, p3) : SV)].length) * 24 ≤ 140737488355328 := by have := HVS.out; simp; omega
   have hzb : w.heap.size ≤ (w2.alloc (.cells #[.slice p1 p2 p3] 22)).heap.size := Nat.le_trans hsz hba.size
   clear hone hba hv2 hv3 hb2
   go_wp2_with (first
    | (at_builtin; refine wpList_append_rows (v := .slice a3 q3 c3) rfl (.tmp 16) (.tmp 19) 23 rfl (L := vs) (M := [((p1, p2, p3) : SV)]) (base := w.heap.size) elem_s rfl rfl HO2.out HONE.out encS_one hle (by decide) hzb ?_; intro a9 n9 c9 w9 Hn9 ho9 hg9 hat9 hb9)
    | fail)
   have hty : ∀ k, (Value.slice a3 q3 c3).ownBlock = some k → ∃ cur fr, (w2.alloc (.cells #[.slice p1 p2 p3] 22)).heap[k]? = some (.cells cur 22 fr) := fun k hk => ownsRow_type HO2.out.2 hk
   have hl1 : (R.take k).length = k := by rw [List.length_take]; omega
   refine ⟨⟨k + 1, vs ++ [((p1, p2, p3) : SV)], a9, n9, c9, by omega, by push_cast; rfl, rfl, ho9, by rw [List.length_append, HVS.out]; rfl, ?_, HB.out.trans ((HBA.out.mono hsz).trans hb9)⟩, by simp [intOf]; omega⟩
   rw [take_snoc R k hkl]
   exact recs_snoc (by rw [HVS.out, hl1]) (fun i h1 h2 => OwnB.grownApart (HAL2.out i h1 h2) hg9 hty (by decide)) (OwnB.grownApart HV2.out hg9 hty (by decide))
  ·
   obtain rfl : k = nr := by omega
   go_wp2_with fail
   go_ret
   have hl1 : R.take k = R := List.take_of_length_le (by have := HNR.out; omega)
   refine ⟨_, rfl, ⟨vs, by rw [HVS.out, HNR.out], HO.out.base (Nat.zero_le _), fun q hq => OwnR.ge HO.out q hq, fun i h1 h2 => ?_⟩, HB.out⟩
   have h9 := HAL.out i h1 (by rw [hl1]; exact h2)
   have e9 : (R.take k)[i]'(by rw [hl1]; exact h2) = R[i] := by simp
   rw [e9] at h9
   exact ⟨h9.base (Nat.zero_le _), fun q hq => OwnB.ge h9 q hq⟩
end Cam
