import Derived.Test.YteabnccmomdnpaaRow
import Derived.Test.YteabnccmomdnpaaProg
import Derived.Test.YteabnccmomdnpaaBe
import Derived.Deep.QuietTactic
import Derived.BigQuiet
import Derived.IntWalk
/- margin calls in memory; call.Late; cambistkeep.Due, Calls. -/
namespace Cam
open Go Go.RowKit Go.Proofs

/-- a margin call's numbers -/
structure CT where
  who : Int
  cur : Int
  amt : Int
  tick : Int
deriving DecidableEq
def CT.vs (c : CT) : List Value := [.int .i64 c.who, .int .i64 c.cur, .int .i64 c.amt, .int .i64 c.tick]
theorem CT.len (c : CT) : c.vs.length = 4 := rfl
theorem CT.one (c : CT) : ∀ u ∈ c.vs, u.oneCell' = true := by
  intro u hu
  simp only [CT.vs, List.mem_cons, List.not_mem_nil, or_false] at hu
  rcases hu with rfl | rfl | rfl | rfl <;> rfl
abbrev Cs (w : World) (v : Value) (l : List CT) : Prop := Rs CT.vs 4 w v l
abbrev OwnC (w : World) (base : Nat) (v : Value) (l : List CT) : Prop := OwnR CT.vs 4 28 w base v l
theorem elem_call : Elem Try.prog 22 28 4 32 := Elem.mk' (z := .agg #[.int .i64 0, .int .i64 0, .int .i64 0, .int .i64 0]) Try.underlying22 (by kernel_rfl) rfl (by decide)
theorem Cs.at4 {w : World} {a : Option Addr} {len cap : Nat} {l : List CT} (h : Cs w (.slice a len cap) l) (hp : 0 < l.length) :
    ∃ b off, a = some ⟨b, off, none⟩ ∧ b < w.heap.size ∧ ∀ i (hi : i < l.length), w.cell? ⟨b, off + i * 4, none⟩ = some (.int .i64 l[i].who) ∧ w.cell? ⟨b, off + i * 4 + 1, none⟩ = some (.int .i64 l[i].cur) ∧ w.cell? ⟨b, off + i * 4 + 2, none⟩ = some (.int .i64 l[i].amt) ∧ w.cell? ⟨b, off + i * 4 + 3, none⟩ = some (.int .i64 l[i].tick) := by
  obtain ⟨b, off, h1, h2, h3⟩ := Rs.at h hp (by decide)
  exact ⟨b, off, h1, h2, fun i hi => ⟨h3 i hi 0 _ rfl, h3 i hi 1 _ rfl, h3 i hi 2 _ rfl, h3 i hi 3 _ rfl⟩⟩

/-- two slices in blocks of their own -/
def Ap (v v' : Value) : Prop := ∀ k, v.ownBlock = some k → v'.ownBlock ≠ some k
theorem Ap.symm {v v' : Value} (h : Ap v v') : Ap v' v := fun k h1 h2 => h k h2 h1
theorem Ap.nil {v : Value} : Ap (.slice none 0 0) v := fun k h => by cases h
theorem Ap.step {v v1 v' : Value} {H : Nat} (h : Ap v v') (hat : Hid (v1.ownBlock = v.ownBlock ∨ v1.ownBlock = some H)) (hl : ∀ k, v'.ownBlock = some k → k < H) : Ap v1 v' := by
  intro k h1 h2
  rcases hat.out with e | e
  · exact h k (e ▸ h1) h2
  · rw [e] at h1
    cases h1
    exact absurd (hl _ h2) (Nat.lt_irrefl _)

def lateL (now : Int) (l : List CT) : List CT := l.filter (fun c => decide (c.tick ≤ now))
def leftL (now : Int) (l : List CT) : List CT := l.filter (fun c => !decide (c.tick ≤ now))
/-- Late's answer -/
def LatePost (w : World) (now : Int) (l : List CT) (e : Ending) (w' : World) : Prop :=
  ∃ v1 v2, e = .returned (.tuple #[v1, v2]) ∧ OwnC w' w.heap.size v1 (lateL now l) ∧ OwnC w' w.heap.size v2 (leftL now l) ∧ Ap v1 v2 ∧ Below w.heap.size w w'

set_option maxHeartbeats 1600000 in
theorem Late_any (w : World) (now : Int) (v : Value) (l : List CT) (h : Cs w v l) (hl : l.length ≤ 100000) :
    Calls Try.prog 8 #[.int .i64 now, v] w (LatePost w now l) := by
  obtain ⟨av, cap, rfl, hcap, hm⟩ := h.shape
  obtain ⟨n, hn⟩ : ∃ n, n = l.length := ⟨_, rfl⟩
  have HN := Lib.hid hn
  rw [← hn] at hcap hl ⊢
  rw [← hn] at h
  clear hn
  go_enter Try.func8, Try.ntmps8
  go_wp2_with fail
  go_loopw [4, 5, 10] (fun v4 v5 i wr => ∃ (k : Nat) (xs ys : List CT) (a4 a5 : Option Addr) (n4 c4 n5 c5 : Nat), k ≤ n ∧ i = .int .i64 k ∧ v4 = .slice a4 n4 c4 ∧ v5 = .slice a5 n5 c5 ∧ OwnC wr w.heap.size (.slice a4 n4 c4) xs ∧ OwnC wr w.heap.size (.slice a5 n5 c5) ys ∧ Hid (Ap (.slice a4 n4 c4) (.slice a5 n5 c5)) ∧ Hid (xs = lateL now (l.take k) ∧ ys = leftL now (l.take k)) ∧ Below w.heap.size w wr) (fun _ _ i _ => n - (intOf i).toNat)
  case atStart => exact ⟨0, [], [], none, none, 0, 0, 0, 0, Nat.zero_le _, rfl, rfl, rfl, OwnR.empty CT.len _ _ _, OwnR.empty CT.len _ _ _, Ap.nil, ⟨rfl, rfl⟩, Below.refl _ _⟩
  case round =>
    obtain ⟨k, xs, ys, a4, a5, n4, c4, n5, c5, hk, rfl, rfl, rfl, ho4, ho5, HAP, HL, hbel⟩ := hrel
    have hlen : xs.length ≤ 100000 ∧ ys.length ≤ 100000 := by
      have h1 := List.length_filter_le (fun c : CT => decide (c.tick ≤ now)) (l.take k)
      have h2 := List.length_filter_le (fun c : CT => !decide (c.tick ≤ now)) (l.take k)
      rw [List.length_take] at h1 h2
      rw [HL.out.1, HL.out.2]
      unfold lateL leftL
      omega
    by_cases hlt : k < n
    · have hkl : k < l.length := by have := HN.out; omega
      obtain ⟨b, off, rfl, _, hc⟩ := Cs.at4 (h.mono hbel) (by omega)
      obtain ⟨c, hcx⟩ : ∃ c, c = l[k] := ⟨_, rfl⟩
      obtain ⟨hc0, hc1, hc2, hc3⟩ := hc k hkl
      rw [← hcx] at hc0 hc1 hc2 hc3
      have HC := Lib.hid hcx
      have hsz := hbel.size
      have hb1 : Below w.heap.size w ((wr.alloc (.cells #[.int .i64 c.who, .int .i64 c.cur, .int .i64 c.amt, .int .i64 c.tick] 28)).alloc (.cells #[.int .i64 c.who, .int .i64 c.cur, .int .i64 c.amt, .int .i64 c.tick] 28)) := (hbel.alloc hsz _).alloc (by simp; omega) _
      have ho4A : OwnC ((wr.alloc (.cells #[.int .i64 c.who, .int .i64 c.cur, .int .i64 c.amt, .int .i64 c.tick] 28)).alloc (.cells #[.int .i64 c.who, .int .i64 c.cur, .int .i64 c.amt, .int .i64 c.tick] 28)) w.heap.size (.slice a4 n4 c4) xs := (ho4.alloc _).alloc _
      have ho5A : OwnC ((wr.alloc (.cells #[.int .i64 c.who, .int .i64 c.cur, .int .i64 c.amt, .int .i64 c.tick] 28)).alloc (.cells #[.int .i64 c.who, .int .i64 c.cur, .int .i64 c.amt, .int .i64 c.tick] 28)) w.heap.size (.slice a5 n5 c5) ys := (ho5.alloc _).alloc _
      have hone : Cs ((wr.alloc (.cells #[.int .i64 c.who, .int .i64 c.cur, .int .i64 c.amt, .int .i64 c.tick] 28)).alloc (.cells #[.int .i64 c.who, .int .i64 c.cur, .int .i64 c.amt, .int .i64 c.tick] 28)) (.slice (some ⟨wr.heap.size + 1, 0, none⟩) 1 1) [c] := by
        have := Rs.one CT.len (wr.alloc (.cells #[.int .i64 c.who, .int .i64 c.cur, .int .i64 c.amt, .int .i64 c.tick] 28)) c 28
        rw [show (wr.alloc (.cells #[.int .i64 c.who, .int .i64 c.cur, .int .i64 c.amt, .int .i64 c.tick] 28)).heap.size = wr.heap.size + 1 by simp] at this
        exact this
      have hsz1 := hb1.size
      have hle4 : (xs.length + [c].length) * 32 ≤ 140737488355328 := by simp; omega
      have hle5 : (ys.length + [c].length) * 32 ≤ 140737488355328 := by simp; omega
      clear hc hcx hbel ho4 ho5
      by_cases hla : c.tick ≤ now
      · have HL2 : Hid (xs ++ [c] = lateL now (l.take (k + 1)) ∧ ys = leftL now (l.take (k + 1))) := by
          show _ ∧ _
          rw [take_snoc l k hkl, ← HC.out, HL.out.1, HL.out.2]
          simp [lateL, leftL, hla]
        go_wp2_with (first
          | (at_builtin; refine wpList_append_rows (v := .slice a4 n4 c4) rfl (.tmp 18) (.tmp 20) 22 rfl (L := xs) (M := [c]) (base := w.heap.size) elem_call rfl rfl ho4A hone CT.one hle4 (by decide) hsz1 ?_; intro a7 n7 c7 w7 Hn7 ho7 hg7 hat7 hb7)
          | fail)
        have ho5B := ho5A.grown hg7 (fun q hq e => HAP.out q e hq)
        have HAP2 : Hid (Ap (.slice a7 n7 c7) (.slice a5 n5 c5)) := Ap.step HAP.out hat7 (OwnR.lt ho5A)
        exact ⟨⟨k + 1, xs ++ [c], ys, a7, a5, n7, c7, n5, c5, by omega, by push_cast; rfl, rfl, rfl, ho7, ho5B, HAP2, HL2, hb1.trans hb7⟩, by simp [intOf]; omega⟩
      · have hla' : decide (c.tick ≤ now) = false := by simpa using hla
        have HL2 : Hid (xs = lateL now (l.take (k + 1)) ∧ ys ++ [c] = leftL now (l.take (k + 1))) := by
          show _ ∧ _
          rw [take_snoc l k hkl, ← HC.out, HL.out.1, HL.out.2]
          simp [lateL, leftL, hla]
        go_wp2_with (first
          | (at_builtin; refine wpList_append_rows (v := .slice a5 n5 c5) rfl (.tmp 22) (.tmp 24) 22 rfl (L := ys) (M := [c]) (base := w.heap.size) elem_call rfl rfl ho5A hone CT.one hle5 (by decide) hsz1 ?_; intro a7 n7 c7 w7 Hn7 ho7 hg7 hat7 hb7)
          | fail)
        have ho4B := ho4A.grown hg7 (fun q hq e => HAP.out q hq e)
        have HAP2 : Hid (Ap (.slice a4 n4 c4) (.slice a7 n7 c7)) := (Ap.step HAP.out.symm hat7 (OwnR.lt ho4A)).symm
        exact ⟨⟨k + 1, xs, ys ++ [c], a4, a7, n4, c4, n7, c7, by omega, by push_cast; rfl, rfl, rfl, ho4B, ho7, HAP2, HL2, hb1.trans hb7⟩, by simp [intOf]; omega⟩
    · have hfin : xs = lateL now l ∧ ys = leftL now l := by
        rw [HL.out.1, HL.out.2, List.take_of_length_le (by have := HN.out; omega)]
        exact ⟨rfl, rfl⟩
      have HFIN := Lib.hid hfin
      clear hfin
      go_wp2_with fail
      go_ret2
      exact ⟨_, _, rfl, by rw [← HFIN.out.1]; exact ho4, by rw [← HFIN.out.2]; exact ho5, HAP.out, hbel⟩

end Cam
