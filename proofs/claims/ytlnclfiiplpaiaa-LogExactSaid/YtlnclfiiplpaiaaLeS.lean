import Derived.Test.YtlnclfiiplpaiaaLeB
/- LogExact: bytes that are written over; their owners stay owners. -/
namespace Cam
open Go Go.RowKit Go.Proofs
def OwnU (w : World) (v : Value) (n : Nat) : Prop := ∃ xs : List Value, w.ownsRow 0 5 1 v n xs ∧ ∀ u ∈ xs, ∃ c : Int, u = .int .u8 c
theorem OwnB.u {w : World} {b : Nat} {v : Value} {l : List UInt8} (h : OwnB 5 w b v l) : OwnU w v l.length := ⟨bvs l, OwnB.base h (Nat.zero_le _), fun u hu => by obtain ⟨c, _, rfl⟩ := List.mem_map.1 hu; exact ⟨_, rfl⟩⟩
theorem OwnU.kept {S : Nat → Prop} {w w' : World} {v : Value} {n : Nat} (h : OwnU w v n) (hk : Kept S w w') (hS : ∀ k, v.ownBlock = some k → ¬ S k) : OwnU w' v n := by
 obtain ⟨xs, h1, h2⟩ := h
 exact ⟨xs, ownsRow_keptJ h1 hk hS, h2⟩
theorem OwnU.put {w : World} {v : Value} {n : Nat} (h : OwnU w v n) (g j : Nat) (c : Int) : OwnU (w.setCell ⟨g, j, none⟩ (.int .u8 c)) v n := by
 obtain ⟨xs, h1, h2⟩ := h
 rcases Joins.ownsRow_forms h1 with ⟨rfl, rfl⟩ | ⟨g2, cap, rfl⟩
 ·
  exact ⟨xs, ⟨h1.1, .inl ⟨rfl, rfl⟩⟩, h2⟩
 ·
  by_cases e : g2 = g
  ·
   subst e
   refine ⟨xs.set j _, (h1.stored j (.int .u8 c)).1, fun u hu => ?_⟩
   rcases List.mem_or_eq_of_mem_set hu with h3 | rfl
   ·
    exact h2 u h3
   ·
    exact ⟨_, rfl⟩
  ·
   exact ⟨xs, ownsRow_keptJ h1 ((Kept.refl (fun k => k = g) w).setCell ⟨g, j, none⟩ _ rfl) (fun k hk e2 => e (by cases hk; exact e2)), h2⟩
def SpoilP (w : World) (v : Value) (e : Ending) (w' : World) : Prop := e = .returned (.tuple #[]) ∧ Kept (fun k => v.ownBlock = some k) w w' ∧ ∀ v2 n2, OwnU w v2 n2 → OwnU w' v2 n2
set_option maxHeartbeats 800000 in
theorem SpoilU_any (w : World) (v : Value) (n : Nat) (h : OwnU w v n) : Calls Try.prog 52 #[v] w (SpoilP w v) := by
 obtain ⟨x0, h0, h0u⟩ := h
 have hsh : ∃ a c, v = .slice a n c ∧ n ≤ 9223372036854775807 := by
  rcases h0.2 with ⟨rfl, rfl⟩ | ⟨g, cap, cur, rfl, _, _, h5, h6, _⟩
  ·
   exact ⟨_, _, rfl, by omega⟩
  ·
   unfold maxLen at h6; exact ⟨_, _, rfl, by omega⟩
 obtain ⟨a, cap, rfl, hl63⟩ := hsh
 go_enter Try.func52, Try.ntmps52
 go_wp2
 go_loopw [2] (fun i wr => ∃ (k : Nat) (xs : List Value), k ≤ n ∧ i = .int .i64 k ∧ wr.ownsRow 0 5 1 (.slice a n cap) n xs ∧ (∀ u ∈ xs, ∃ n : Int, u = .int .u8 n) ∧ Kept (fun k => (Value.slice a n cap).ownBlock = some k) w wr ∧ Hid (∀ v2 n2, OwnU w v2 n2 → OwnU wr v2 n2)) (fun i _ => n - (intOf i).toNat)
 case atStart => exact ⟨0, x0, Nat.zero_le _, rfl, h0, h0u, Kept.refl _ _, fun _ _ h => h⟩
 case round =>
  obtain ⟨k, xs, hk, rfl, hown, hall, hbel, HU⟩ := hrel
  by_cases hlt : k < n
  ·
   obtain ⟨g, cap', hv⟩ := Joins.ownsRow_form hown (by omega)
   simp only [Value.slice.injEq, true_and] at hv
   obtain ⟨rfl, rfl⟩ := hv
   have hxl := hown.1
   have hkx : k < xs.length := by omega
   obtain ⟨m, hn⟩ := hall xs[k] (List.getElem_mem hkx)
   have hck := hown.cellAt k (by omega)
   rw [List.getElem?_eq_getElem hkx, hn] at hck
   have hfr := hown.frozenAt k
   obtain ⟨hst, hgr⟩ := hown.stored k (.int .u8 ((m + 101) % 256))
   have Hbel := Lib.hid hbel
   have Hall := Lib.hid hall
   clear hall hxl hn hbel h0 h0u
   go_wp2
   go_roundw
   case rel =>
    refine ⟨k + 1, xs.set k (.int .u8 ((m + 101) % 256)), by omega, by go_num, hst, fun u hu => ?_, Hbel.out.setCell _ _ rfl, fun v2 n2 h2 => (HU.out v2 n2 h2).put _ _ _⟩
    rcases List.mem_or_eq_of_mem_set hu with h1 | rfl
    ·
     exact Hall.out u h1
    ·
     exact ⟨_, rfl⟩
   case measure => simp [intOf]; omega
  ·
   go_wp2
   go_end0
   exact ⟨rfl, hbel, HU.out⟩
def RowsU (w : World) (v : Value) (vs : List SV) : Prop := OwnR encS 1 22 w 0 v vs ∧ ∀ s ∈ vs, OwnU w s.v s.2.1
theorem RowsU.spoil {w w' : World} {v u : Value} {vs : List SV} {n : Nat} (h : RowsU w v vs) (hu : OwnU w u n) (hk : Kept (fun k => u.ownBlock = some k) w w') (hs : ∀ v2 n2, OwnU w v2 n2 → OwnU w' v2 n2) : RowsU w' v vs := by
 refine ⟨h.1.keptJ hk (fun k h1 h2 => ?_), fun s hm => hs _ _ (h.2 s hm)⟩
 obtain ⟨xs, h3, _⟩ := hu
 obtain ⟨c1, f1, e1⟩ := ownsRow_type h.1.2 h1
 obtain ⟨c2, f2, e2⟩ := ownsRow_type h3 h2
 rw [e1] at e2
 have := Option.some.inj e2
 simp only [Obj.cells.injEq] at this
 exact absurd this.2.1 (by decide)
theorem RowsU.kept {S : Nat → Prop} {w w' : World} {v : Value} {vs : List SV} (h : RowsU w v vs) (hk : Kept S w w') (h1 : ∀ k, v.ownBlock = some k → ¬ S k) (h2 : ∀ s ∈ vs, ∀ k, s.v.ownBlock = some k → ¬ S k) : RowsU w' v vs := ⟨h.1.keptJ hk h1, fun s hm => (h.2 s hm).kept hk (h2 s hm)⟩
theorem SV.len_own {w : World} {b : Nat} {s : SV} {l : List UInt8} (h : OwnB 5 w b s.v l) : s.2.1 = l.length := by
 obtain ⟨a, c, e⟩ := h.shape
 obtain ⟨s1, s2, s3⟩ := s
 simp only [SV.v, Value.slice.injEq] at e
 exact e.2.1
theorem recsM.rowsU {w : World} {F : Nat → Prop} {v : Value} {R : List (List UInt8)} (h : recsM w F v R) : ∃ vs, RowsU w v vs ∧ vs.length = R.length ∧ (∀ k, v.ownBlock = some k → F k) ∧ ∀ s ∈ vs, ∀ k, s.v.ownBlock = some k → F k := by
 obtain ⟨vs, h1, h2, h3, h4⟩ := h
 refine ⟨vs, ⟨h2, fun s hs => ?_⟩, h1, h3, fun s hs => ?_⟩
 ·
  obtain ⟨i, hi, rfl⟩ := List.getElem_of_mem hs
  have h9 := (h4 i hi (by omega)).1
  rw [SV.len_own h9]
  exact h9.u
 ·
  obtain ⟨i, hi, rfl⟩ := List.getElem_of_mem hs
  exact (h4 i hi (by omega)).2
theorem RowsU.at {w : World} {a : Option Addr} {n c : Nat} {vs : List SV} (h : RowsU w (.slice a n c) vs) (hp : 0 < vs.length) : ∃ b off, a = some ⟨b, off, none⟩ ∧ ∀ i (hi : i < vs.length), w.cell? ⟨b, off + i, none⟩ = some vs[i].v := by
 obtain ⟨b, off, rfl, _, hc⟩ := Rs.at h.1.rs hp (by decide)
 exact ⟨b, off, rfl, fun i hi => by have := hc i hi 0 vs[i].v rfl; simpa using this⟩
theorem RowsU.len {w : World} {a : Option Addr} {n c : Nat} {vs : List SV} (h : RowsU w (.slice a n c) vs) : n = vs.length := by
 obtain ⟨a9, c9, e9, _⟩ := h.1.rs.shape
 simp only [Value.slice.injEq] at e9
 exact e9.2.1
end Cam
