import Derived.Test.YtdenijpdkfnjeaaDkD
/- disk.Disk: Read. -/
namespace Cam
open Go Go.RowKit Go.Proofs

theorem results_row2 {P : Program} {fn : Func} {p u : Tmp} {ty : TypeId} (h : fn.results = #[.cell p ty, .tmp u]) {tmps : Array Value} {w : World} {g : Nat} {C : List Value} {d : TypeDesc} {x : Value}
    (hc : HC w g C) (hp : tmps.getD p undef = .pointer (some ⟨g, 0, none⟩)) (hx : tmps.getD u undef = x)
    (hu : P.underlying ty = some d) (hd : (match d with | .struct _ | .array _ _ => true | _ => false) = true) (hi : (P.info? ty).map (·.size) = some C.length) :
    (results fn tmps).run P w = .ok (.tuple #[.agg C.toArray, x]) w := by
  obtain ⟨t, hg⟩ := hc
  have hp' : tmps[p]?.getD undef = .pointer (some ⟨g, 0, none⟩) := by simpa using hp
  subst hx
  rw [results_cell_tmp h]
  simp [hp', asAddr, run_loadVar_row w g t ty C.toArray (0, 0) d hg hu hd (by simpa using hi), Result.andThen]

theorem blockAt {w : World} {g : Nat} {L : List (List UInt8)} (h : HC w g (flatW bvs L)) (hL : ∀ b ∈ L, b.length = 64) {k : Nat} (hk : k < L.length) : w.rangeAt g (k * 64) (bvs L[k]) :=
  h.range _ (fun j v hv => flatW_at (fun a ha => by rw [bvs_length]; exact hL a ha) hk j v hv)
theorem blockRoom {w : World} {g : Nat} {L : List (List UInt8)} (h : HC w g (flatW bvs L)) (hL : ∀ b ∈ L, b.length = 64) {k : Nat} (hk : k < L.length) {m : List UInt8} (hm : m.length = 64) : w.there g (k * 64) (bvs m).length :=
  h.there (by rw [flatW_length (fun a ha => by rw [bvs_length]; exact hL a ha), bvs_length, hm]; have := Nat.mul_le_mul_right 64 hk; rw [Nat.succ_mul] at this; exact this)

def zero64 : List UInt8 := List.replicate 64 0
theorem zero64_length : zero64.length = 64 := by simp [zero64]

set_option maxHeartbeats 1600000 in
set_option maxRecDepth 100000 in
theorem Read_any (w : World) (g gs gn : Nat) (vo : Value) (n : Nat) (D : DK) (h : DM w g gs gn vo n D) (at_ : Int) :
    Calls Try.prog 15 #[.pointer (some ⟨g, 0, none⟩), .int .i64 at_] w fun e w' => (∃ b : List UInt8, e = .returned (.tuple #[.agg (bvs b).toArray, .int .i64 (dRight n D at_)]) ∧ (dRight n D at_ = 0 → D.now[at_.toNat]? = some b) ∧ (dRight n D at_ ≠ 0 → b = zero64)) ∧ Below w.heap.size w w' := by
  have hz : HC (w.alloc (.cells (bvs zero64).toArray 29)) w.heap.size (bvs zero64) := HC.new
  have hri := fun w' (h' : DM w' g gs gn vo n D) => right_any w' g gs gn vo n D h' at_
  have hA := h.alloc (.cells (bvs zero64).toArray 29)
  obtain ⟨r, hr⟩ : ∃ r, r = dRight n D at_ := ⟨_, rfl⟩
  rw [← hr] at hri
  rw [← hr]
  by_cases h0 : r = 0
  · have hat : 0 ≤ at_ ∧ at_ < n := by
      rw [hr] at h0
      unfold dRight at h0
      split at h0
      · cases h0
      · split at h0
        · cases h0
        · omega
    obtain ⟨k, rfl⟩ : ∃ k : Nat, at_ = (k : Int) := ⟨at_.toNat, by omega⟩
    have hk : k < n := by omega
    have hkl : k < D.now.length := by rw [h.ok.now.1]; exact hk
    obtain ⟨b, hb⟩ : ∃ b, b = D.now[k] := ⟨_, rfl⟩
    have hrange := blockAt hA.hn h.ok.now.2 hkl
    have hbl := h.ok.now.2 _ (List.getElem_mem hkl)
    rw [← hb] at hrange hbl
    have HK : Hid (D.now[(k : Int).toNat]? = some b) := by show _ = _; rw [Int.toNat_natCast, List.getElem?_eq_getElem hkl, hb]
    have Hsz := Lib.hid (size64_of hbl)
    have Hran := Lib.hid hrange
    have hroom := hz.room (m := b) zero64_length hbl
    have Hroom := Lib.hid hroom
    have hc1 := hA.cells.2.1
    have hfin := hz.puts (vs := bvs b) (o := 0) (by rw [bvs_length, bvs_length, hbl, zero64_length]; omega)
    rw [splice_all _ _ (by rw [hbl, zero64_length])] at hfin
    have Hfin := Lib.hid hfin
    have HA := Lib.hid hA
    have Hri := Lib.hid hri
    have Hbl := Lib.hid hbl
    have hn1 := h.ok.n1
    subst h0
    clear hr hb hrange hbl hroom hfin hA hri h hat hz hkl
    go_enter Try.func15, Try.ntmps15
    go_wp2_with fail
    refine (Hri.out _ HA.out).mono ?_
    rintro e w1 ⟨rfl, rfl⟩
    go_wp2_with (first
      | (refine wpList_load_mid rfl 29 (.tmp 19) rfl gn (k * 64) rfl (bvs b) _ Hran.out Try.underlying29 rfl Hsz.out ?_)
      | (refine wpList_store_mid rfl 29 (.tmp 4) (.tmp 20) rfl w.heap.size 0 (bvs b).toArray rfl rfl (by simpa using Hroom.out) (by simpa using Hsz.out) (all_oneCell_toArray (bs_oneCell _)) ?_)
      | fail)
    refine bodyPost_ret (results_row2 rfl Hfin.out rfl rfl Try.underlying29 rfl Hsz.out) rfl ⟨⟨b, rfl, fun _ => HK.out, fun h => absurd rfl h⟩, ?_⟩
    exact ((Below.refl _ _).alloc (Nat.le_refl _) _).trans ((setCells_kept _ _ _ _).below (fun j hj e => by omega) (by simp))
  · have hri0 : ((r : Int) == 0) = false := by simp [h0]
    have Hz := Lib.hid hz
    have Hri := Lib.hid hri
    have HA := Lib.hid hA
    have Hsz := Lib.hid (size64_of zero64_length)
    have Hroom := Lib.hid (hz.room (m := zero64) zero64_length zero64_length)
    have hfin := hz.puts (vs := bvs zero64) (o := 0) (by rw [bvs_length, zero64_length]; omega)
    rw [splice_all _ _ rfl] at hfin
    have Hfin := Lib.hid hfin
    have H0 := Lib.hid h0
    clear hr hri hA hz h hfin h0
    go_enter Try.func15, Try.ntmps15
    go_wp2_with fail
    refine (Hri.out _ HA.out).mono ?_
    rintro e w1 ⟨rfl, rfl⟩
    go_wp2_with (first
      | (refine wpList_store_mid rfl 29 (.tmp 4) (.tmp 12) rfl w.heap.size 0 (bvs zero64).toArray rfl rfl (by simpa using Hroom.out) (by simpa using Hsz.out) (all_oneCell_toArray (bs_oneCell _)) ?_)
      | fail)
    refine bodyPost_ret (results_row2 rfl Hfin.out rfl rfl Try.underlying29 rfl Hsz.out) rfl ⟨⟨zero64, rfl, fun h => absurd h H0.out, fun _ => rfl⟩, ?_⟩
    exact ((Below.refl _ _).alloc (Nat.le_refl _) _).trans ((setCells_kept _ _ _ _).below (fun j hj e => by omega) (by simp))

end Cam
