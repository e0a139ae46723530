import Derived.Test.YtlnclfiiplpaiaaHtz
import Derived.Test.YtlnclfiiplpaiaaDkCz
import Derived.Test.YtlnclfiiplpaiaaUni
/- a disk in memory by one predicate, with its blocks. -/
namespace Cam
open Go Go.RowKit Go.Proofs
def encB (b : List UInt8) : List Value := (bvs b ++ List.replicate 64 (Value.int .u8 0)).take 64
theorem encB_len (b : List UInt8) : (encB b).length = 64 := by
 unfold encB
 rw [List.length_take, List.length_append, List.length_replicate]
 omega
theorem encB_64 {b : List UInt8} (h : b.length = 64) : encB b = bvs b := by
 unfold encB
 rw [List.take_append_of_le_length (by rw [bvs_length]; omega), List.take_of_length_le (by rw [bvs_length]; omega)]
theorem encB_one (b : List UInt8) : ∀ u ∈ encB b, u.oneCell' = true := by
 intro u hu
 have := List.mem_of_mem_take hu
 rw [List.mem_append] at this
 rcases this with h | h
 ·
  exact bs_oneCell _ u h
 ·
  rw [List.mem_replicate] at h
  rw [h.2]
  rfl
theorem flat_encB {L : List (List UInt8)} (h : ∀ b ∈ L, b.length = 64) : flatW encB L = flatW bvs L := by
 unfold flatW
 congr 1
 exact List.map_congr_left (fun b hb => encB_64 (h b hb))
theorem ownsRow_keptJ {S : Nat → Prop} {w w' : World} {base e size : Nat} {v : Value} {n : Nat} {xs : List Value} (h : w.ownsRow base e size v n xs) (hk : Kept S w w') (hS : ∀ k, v.ownBlock = some k → ¬ S k) : w'.ownsRow base e size v n xs := by
 refine ⟨h.1, ?_⟩
 rcases h.2 with h2 | ⟨b, cap, cur, rfl, hg, hh, r⟩
 ·
  exact Or.inl h2
 ·
  exact Or.inr ⟨b, cap, cur, rfl, hg, (hk.block b (Array.getElem?_eq_some_iff.1 hh).1 (hS b rfl)).trans hh, r⟩
theorem OwnB.keptJ {S : Nat → Prop} {t : TypeId} {w w' : World} {base : Nat} {v : Value} {l : List UInt8} (h : OwnB t w base v l) (hk : Kept S w w') (hS : ∀ k, v.ownBlock = some k → ¬ S k) : OwnB t w' base v l := ownsRow_keptJ h hk hS
theorem OwnR.keptJ {α : Type} {enc : α → List Value} {K : Nat} {S : Nat → Prop} {t : TypeId} {w w' : World} {base : Nat} {v : Value} {L : List α} (h : OwnR enc K t w base v L) (hk : Kept S w w') (hS : ∀ k, v.ownBlock = some k → ¬ S k) : OwnR enc K t w' base v L := ⟨h.1, ownsRow_keptJ h.2 hk hS⟩
theorem HT.keptJ {S : Nat → Prop} {w w' : World} {g : Nat} {t : TypeId} {C : List Value} (h : HT w g t C) (hk : Kept S w w') (hS : ¬ S g) : HT w' g t C := (hk.block g h.lt hS).trans h
theorem OwnB.ge {t : TypeId} {w : World} {base : Nat} {v : Value} {l : List UInt8} (h : OwnB t w base v l) : ∀ g, v.ownBlock = some g → base ≤ g := fun g hg => (World.ownsRow.lt h g hg).1
theorem ownsRow_type {w : World} {base e size : Nat} {v : Value} {n : Nat} {xs : List Value} (h : w.ownsRow base e size v n xs) {k : Nat} (hk : v.ownBlock = some k) : ∃ cur fr, w.heap[k]? = some (.cells cur e fr) := by
 rcases h.2 with ⟨e1, _⟩ | ⟨b, cap, cur, rfl, hg, hh, r⟩
 ·
  rw [e1] at hk
  cases hk
 ·
  cases hk
  exact ⟨cur, _, hh⟩
theorem Kept.next {S : Nat → Prop} {a b c : World} (h : Kept S a b) (k : Below b.heap.size b c) : Kept S a c := h.trans (Kept.of_below k) (fun _ _ e => e.elim)
theorem Kept.pre {S : Nat → Prop} {a b c : World} (h : Below a.heap.size a b) (k : Kept S b c) : Kept S a c := ((Kept.of_below h).weaken (fun _ e => e.elim)).trans k (fun _ _ e => e)
def DX (w : World) (g : Nat) (F : Nat → Prop) (n : Nat) (D : DK) : Prop := ∃ gs gn vo, DM w g gs gn vo n D ∧ ∀ k, F k ↔ DS g gs gn vo k
theorem DX.lt {w : World} {g n : Nat} {F : Nat → Prop} {D : DK} (h : DX w g F n D) (k : Nat) (hk : F k) : k < w.heap.size := by
 obtain ⟨gs, gn, vo, hd, hF⟩ := h
 rcases (hF k).1 hk with rfl | rfl | rfl | e
 ·
  exact hd.hd.lt
 ·
  exact hd.hs.lt
 ·
  exact hd.hn.lt
 ·
  exact (hd.row k e).2
theorem DX.mine {w : World} {g n : Nat} {F : Nat → Prop} {D : DK} (h : DX w g F n D) : F g := by
 obtain ⟨gs, gn, vo, hd, hF⟩ := h
 exact (hF g).2 (.inl rfl)
theorem DX.ok {w : World} {g n : Nat} {F : Nat → Prop} {D : DK} (h : DX w g F n D) : DOk n D := by
 obtain ⟨gs, gn, vo, hd, hF⟩ := h
 exact hd.ok
theorem DX.kept {S : Nat → Prop} {w w' : World} {g n : Nat} {F : Nat → Prop} {D : DK} (h : DX w g F n D) (hk : Kept S w w') (hS : ∀ k, F k → ¬ S k) : DX w' g F n D := by
 obtain ⟨gs, gn, vo, hd, hF⟩ := h
 exact ⟨gs, gn, vo, hd.kept hk (fun k e => hS k ((hF k).2 e)), hF⟩
theorem DX.below {w w' : World} {g n : Nat} {F : Nat → Prop} {D : DK} (h : DX w g F n D) (hb : Below w.heap.size w w') : DX w' g F n D := h.kept (Kept.of_below hb) (fun _ _ e => e)
theorem DX.alloc {w : World} {g n : Nat} {F : Nat → Prop} {D : DK} (h : DX w g F n D) (o : Obj) : DX (w.alloc o) g F n D := h.below ((Below.refl _ _).alloc (Nat.le_refl _) o)
def DXPost (w : World) (g : Nat) (F : Nat → Prop) (n : Nat) (D : DK) (w' : World) : Prop := ∃ F', DX w' g F' n D ∧ Kept F w w' ∧ ∀ k, F' k → F k ∨ w.heap.size ≤ k
theorem DPost.dx {w w' : World} {g gs gn n : Nat} {vo : Value} {F : Nat → Prop} {D : DK} (h : DPost w g gs gn vo n D w') (hF : ∀ k, F k ↔ DS g gs gn vo k) : DXPost w g F n D w' := by
 obtain ⟨vo', hd, hk, ho⟩ := h.dm
 refine ⟨DS g gs gn vo', ⟨gs, gn, vo', hd, fun k => Iff.rfl⟩, hk.weaken (fun k e => (hF k).2 e), fun k e => ?_⟩
 rcases e with e | e | e | e
 ·
  exact .inl ((hF k).2 (.inl e))
 ·
  exact .inl ((hF k).2 (.inr (.inl e)))
 ·
  exact .inl ((hF k).2 (.inr (.inr (.inl e))))
 ·
  rcases ho k e with e | e
  ·
   exact .inl ((hF k).2 (.inr (.inr (.inr e))))
  ·
   exact .inr e
theorem DXPost.put {w w' : World} {g gs gn n : Nat} {vo : Value} {F : Nat → Prop} {D : DK} (hd : DM w' g gs gn vo n D) (hk : Kept (fun k => k = g) w w') (hF : ∀ k, F k ↔ DS g gs gn vo k) : DXPost w g F n D w' :=
 ⟨F, ⟨gs, gn, vo, hd, hF⟩, hk.weaken (fun k e => (hF k).2 (.inl e)), fun _ e => .inl e⟩
theorem Blocks_x (w : World) (g n : Nat) (F : Nat → Prop) (D : DK) (h : DX w g F n D) :
  Calls Try.prog 39 #[.pointer (some ⟨g, 0, none⟩)] w fun e w' => e = .returned (.int .i64 n) ∧ w = w' := by
 obtain ⟨gs, gn, vo, hd, hF⟩ := h
 have hc := hd.cells.2.1
 clear hd hF
 go_enter Try.func39, Try.ntmps39
 go_wp2_with fail
 go_ret
 exact ⟨rfl, rfl⟩
theorem Off_x (w : World) (g n : Nat) (F : Nat → Prop) (D : DK) (h : DX w g F n D) :
  Calls Try.prog 38 #[.pointer (some ⟨g, 0, none⟩)] w fun e w' => e = .returned (.bool D.off) ∧ w = w' := by
 obtain ⟨gs, gn, vo, hd, hF⟩ := h
 exact Off_any w g gs gn vo n D hd
theorem Open_x (w : World) (g n : Nat) (F : Nat → Prop) (D : DK) (h : DX w g F n D) :
  Calls Try.prog 58 #[.pointer (some ⟨g, 0, none⟩)] w fun e w' => e = .returned (.int .i64 D.op.length) ∧ w = w' := by
 obtain ⟨gs, gn, vo, hd, hF⟩ := h
 exact Open_any w g gs gn vo n D hd
theorem Read_xon (w : World) (g n : Nat) (F : Nat → Prop) (D : DK) (h : DX w g F n D) (hoff : D.off = false) (k : Nat) (hk : k < n) (b : List UInt8) (hb : D.now[k]? = some b) :
  Calls Try.prog 17 #[.pointer (some ⟨g, 0, none⟩), .int .i64 (k : Int)] w fun e w' => e = .returned (.tuple #[.agg (bvs b).toArray, .int .i64 0]) ∧ Below w.heap.size w w' := by
 obtain ⟨gs, gn, vo, hd, hF⟩ := h
 exact Read_on w g gs gn vo n D hd hoff k hk b hb
theorem Write_x (w : World) (g n : Nat) (F : Nat → Prop) (D : DK) (h : DX w g F n D) (k : Nat) (b : List UInt8) (hk : k < n) (hb : b.length = 64) (hf : D.op.length < 1000000) :
  Calls Try.prog 54 #[.pointer (some ⟨g, 0, none⟩), .int .i64 (k : Int), .agg (bvs b).toArray] w fun e w' => e = .returned (.int .i64 (dWrite D k b).1) ∧ DXPost w g F n (dWrite D k b).2 w' := by
 obtain ⟨gs, gn, vo, hd, hF⟩ := h
 exact (Write_any w g gs gn vo n D hd k b hk hb hf).mono fun _ _ q => ⟨q.1, q.2.dx hF⟩
theorem Sync_x (w : World) (g n : Nat) (F : Nat → Prop) (D : DK) (h : DX w g F n D) :
  Calls Try.prog 44 #[.pointer (some ⟨g, 0, none⟩)] w fun e w' => e = .returned (.int .i64 (dSync D).1) ∧ DXPost w g F n (dSync D).2 w' := by
 obtain ⟨gs, gn, vo, hd, hF⟩ := h
 exact (Sync_any w g gs gn vo n D hd).mono fun _ _ q => ⟨q.1, q.2.dx hF⟩
theorem Arm_x (w : World) (g n : Nat) (F : Nat → Prop) (D : DK) (h : DX w g F n D) (m : Int) (hm : m ≤ 9223372036854775807) :
  Calls Try.prog 30 #[.pointer (some ⟨g, 0, none⟩), .int .i64 m] w fun e w' => e = .returned (.tuple #[]) ∧ DXPost w g F n (dArm D m) w' := by
 obtain ⟨gs, gn, vo, hd, hF⟩ := h
 exact (Arm_any w g gs gn vo n D hd m hm).mono fun _ _ q => ⟨q.1, DXPost.put q.2.1 q.2.2 hF⟩
theorem Crash_x (w : World) (g n : Nat) (F : Nat → Prop) (D : DK) (h : DX w g F n D) (vp : Value) (picks : List Int) (hp : ∀ w', Kept F w w' → Is w' vp picks) :
  Calls Try.prog 26 #[.pointer (some ⟨g, 0, none⟩), vp] w fun e w' => e = .returned (.tuple #[]) ∧ DXPost w g F n (dCrash D picks) w' := by
 obtain ⟨gs, gn, vo, hd, hF⟩ := h
 exact (Crash_any w g gs gn vo n D hd vp picks (fun w' hk => hp w' (hk.weaken (fun k e => (hF k).2 e)))).mono fun _ _ q => ⟨q.1, q.2.dx hF⟩
theorem Start_x (w : World) (g n : Nat) (F : Nat → Prop) (D : DK) (h : DX w g F n D) :
  Calls Try.prog 27 #[.pointer (some ⟨g, 0, none⟩)] w fun e w' => e = .returned (.tuple #[]) ∧ DXPost w g F n (dStart D) w' := by
 obtain ⟨gs, gn, vo, hd, hF⟩ := h
 exact (Start_any w g gs gn vo n D hd).mono fun _ _ q => ⟨q.1, q.2.dx hF⟩
def NewXPost (w : World) (n : Nat) (e : Ending) (w' : World) : Prop := ∃ g F, e = .returned (.tuple #[.pointer (some ⟨g, 0, none⟩), .int .i64 0]) ∧ DX w' g F n (DK.new n) ∧ (∀ k, F k → w.heap.size ≤ k) ∧ Below w.heap.size w w'
theorem New_x (w : World) (n : Nat) (h1 : 1 ≤ n) (h2 : n ≤ 65536) : Calls Try.prog 12 #[.int .i64 (n : Int)] w (NewXPost w n) := by
 refine (New_ok w n h1 h2).mono ?_
 rintro e w' ⟨g, gs, gn, rfl, hd, q1, q2, q3, hb⟩
 refine ⟨g, DS g gs gn (.slice none 0 0), rfl, ⟨gs, gn, _, hd, fun _ => Iff.rfl⟩, fun _ hk => ?_, hb⟩
 rcases hk with rfl | rfl | rfl | e
 ·
  exact q3
 ·
  exact q1
 ·
  exact q2
 ·
  cases e
end Cam
