import Derived.Test.YtlnclfiiplpaiaaFrPurez
/- The journal's rows: what stands where, what a half has. No walk. -/
namespace Cam
open Go Go.RowKit Go.Proofs
def markB (g : Nat) : UInt8 := UInt8.ofNat (1 + g % 255)
theorem markB_ne (g : Nat) : markB g ≠ 0 := by
 intro h
 have h1 : (markB g).toNat = 0 := by rw [h]; rfl
 unfold markB at h1
 rw [UInt8.toNat_ofNat'] at h1
 omega
def needN (n : Nat) : Nat := (n + 61) / 62
def mid (x : List UInt8) : List UInt8 := (x.drop 1).take 62
def mids (L : List (List UInt8)) : List UInt8 := (L.map mid).flatten
def hGen (x : List UInt8) : Nat := unbe ((x.drop 2).take 8)
def hSize (x : List UInt8) : Nat := unbe ((x.drop 14).take 4)
def isMk (g : Nat) (x : List UInt8) : Prop := x[0]? = some (markB g) ∧ x[63]? = some (markB g)
def rowN (L : List (List UInt8)) : Nat := needN (21 + hSize (L.headD []))
def rowBy (L : List (List UInt8)) : List UInt8 := mids (L.take (rowN L))
def rowG (L : List (List UInt8)) : Nat := fGen (rowBy L)
def rowK (L : List (List UInt8)) : Nat := fNo (rowBy L)
def rowP (L : List (List UInt8)) : List UInt8 := fBody (rowBy L)
def stands (L : List (List UInt8)) : Prop :=
 L ≠ [] ∧ (L.headD [])[1]? = some 195 ∧ hSize (L.headD []) ≤ 65536 ∧ rowN L ≤ L.length ∧ (∀ y ∈ L.take (rowN L), isMk (hGen (L.headD [])) y) ∧ isFrame (rowBy L)
noncomputable instance standsDec (L : List (List UInt8)) : Decidable (stands L) := Classical.propDecidable _
theorem needN_pos (n : Nat) : 1 ≤ needN (21 + n) := by unfold needN; omega
theorem rowN_pos (L : List (List UInt8)) : 1 ≤ rowN L := needN_pos _
noncomputable def recsF (L : List (List UInt8)) (g : Nat) : Nat → Nat → Nat → List (List UInt8) × Nat
 | 0, _, e => ([], e)
 | f + 1, k, e => if stands (L.drop e) ∧ rowG (L.drop e) = g ∧ rowK (L.drop e) = k then (rowP (L.drop e) :: (recsF L g f (k + 1) (e + rowN (L.drop e))).1, (recsF L g f (k + 1) (e + rowN (L.drop e))).2) else ([], e)
structure HalfT where
 gen : Nat
 snap : List UInt8
 recs : List (List UInt8)
 fin : Nat
noncomputable def readL (L : List (List UInt8)) : HalfT :=
 if stands L ∧ 1 ≤ rowG L ∧ rowK L = 0 then ⟨rowG L, rowP L, (recsF L (rowG L) L.length 1 (rowN L)).1, (recsF L (rowG L) L.length 1 (rowN L)).2⟩ else ⟨0, [], [], 0⟩
def padB (l : List UInt8) : List UInt8 := l ++ List.replicate (62 - l.length) 0
def blockB (g : Nat) (b : List UInt8) (k : Nat) : List UInt8 := markB g :: (padB ((b.drop (k * 62)).take 62) ++ [markB g])
def rowsOf (g k : Nat) (p : List UInt8) : List (List UInt8) := (List.range (needN (p.length + 21))).map (blockB g (sealB g k p))
theorem padB_length {l : List UInt8} (h : l.length ≤ 62) : (padB l).length = 62 := by
 unfold padB
 rw [List.length_append, List.length_replicate]
 omega
theorem part_length (b : List UInt8) (k : Nat) : ((b.drop (k * 62)).take 62).length ≤ 62 := by
 rw [List.length_take]
 omega
theorem blockB_length (g : Nat) (b : List UInt8) (k : Nat) : (blockB g b k).length = 64 := by
 unfold blockB
 rw [List.length_cons, List.length_append, padB_length (part_length b k)]
 rfl
theorem blockB_mid (g : Nat) (b : List UInt8) (k : Nat) : mid (blockB g b k) = padB ((b.drop (k * 62)).take 62) := by
 unfold mid blockB
 rw [List.drop_succ_cons, List.drop_zero, List.take_append_of_le_length (by rw [padB_length (part_length b k)]; omega), List.take_of_length_le (by rw [padB_length (part_length b k)]; omega)]
theorem blockB_mk (g : Nat) (b : List UInt8) (k : Nat) : isMk g (blockB g b k) := by
 refine ⟨rfl, ?_⟩
 unfold blockB
 rw [List.getElem?_cons_succ, List.getElem?_append_right (by rw [padB_length (part_length b k)]; omega), padB_length (part_length b k)]
 rfl
theorem rowsOf_length (g k : Nat) (p : List UInt8) : (rowsOf g k p).length = needN (p.length + 21) := by simp [rowsOf]
theorem rowsOf_64 {g k : Nat} {p : List UInt8} : ∀ b ∈ rowsOf g k p, b.length = 64 := by
 intro b hb
 simp only [rowsOf, List.mem_map] at hb
 obtain ⟨i, _, rfl⟩ := hb
 exact blockB_length _ _ _
theorem rowsOf_mk {g k : Nat} {p : List UInt8} : ∀ b ∈ rowsOf g k p, isMk g b := by
 intro b hb
 simp only [rowsOf, List.mem_map] at hb
 obtain ⟨i, _, rfl⟩ := hb
 exact blockB_mk _ _ _
theorem mids_append (L M : List (List UInt8)) : mids (L ++ M) = mids L ++ mids M := by simp [mids]
theorem mids_rows (g : Nat) (b : List UInt8) : ∀ n, (n - 1) * 62 ≤ b.length → mids ((List.range n).map (blockB g b)) = b.take (n * 62) ++ List.replicate (n * 62 - b.length) 0
 | 0, _ => by simp [mids]
 | n + 1, h => by
  rw [List.range_succ, List.map_append, mids_append]
  rw [Nat.add_sub_cancel] at h
  have h1 : (n - 1) * 62 ≤ b.length := Nat.le_trans (Nat.mul_le_mul_right _ (by omega)) h
  rw [mids_rows g b n h1, show n * 62 - b.length = 0 by omega, List.replicate_zero, List.append_nil]
  simp only [List.map_cons, List.map_nil, mids, List.flatten_cons, List.flatten_nil, List.append_nil]
  rw [blockB_mid]
  unfold padB
  rw [← List.append_assoc, show (n + 1) * 62 = n * 62 + 62 by omega, List.take_add]
  congr 1
  rw [List.length_take, List.length_drop]
  congr 1
  omega
theorem rowsOf_bytes (g k : Nat) (p : List UInt8) : ∃ z, mids (rowsOf g k p) = sealB g k p ++ z := by
 have hl : (sealB g k p).length = p.length + 21 := sealB_length g k p
 unfold rowsOf
 rw [mids_rows g _ _ (by rw [hl]; unfold needN; omega)]
 refine ⟨List.replicate (needN (p.length + 21) * 62 - (sealB g k p).length) 0, ?_⟩
 rw [List.take_of_length_le (by rw [hl]; unfold needN; omega)]
theorem hGen_mid (x : List UInt8) (r : List UInt8) (hx : x.length = 64) : fGen (mid x ++ r) = hGen x := by
 unfold fGen hGen mid
 congr 1
 rw [List.drop_append_of_le_length (by rw [List.length_take, List.length_drop]; omega), List.take_append_of_le_length (by rw [List.length_drop, List.length_take, List.length_drop]; omega), List.drop_take, List.drop_drop, List.take_take]
 rfl
theorem hSize_mid (x : List UInt8) (r : List UInt8) (hx : x.length = 64) : fSize (mid x ++ r) = hSize x := by
 unfold fSize hSize mid
 congr 1
 rw [List.drop_append_of_le_length (by rw [List.length_take, List.length_drop]; omega), List.take_append_of_le_length (by rw [List.length_drop, List.length_take, List.length_drop]; omega), List.drop_take, List.drop_drop, List.take_take]
 rfl
theorem rowsOf_ne (g k : Nat) (p : List UInt8) : ∃ x r, rowsOf g k p = x :: r ∧ x.length = 64 := by
 have hl := rowsOf_length g k p
 have h1 : 1 ≤ needN (p.length + 21) := by unfold needN; omega
 cases h : rowsOf g k p with
 | nil => rw [h] at hl; simp at hl; omega
 | cons x r => exact ⟨x, r, rfl, rowsOf_64 x (by rw [h]; simp)⟩
theorem row_head {g k : Nat} {p : List UInt8} (more : List (List UInt8)) (hg : g ≤ 1099511627776) (hp : p.length ≤ 65536) :
  hGen ((rowsOf g k p ++ more).headD []) = g ∧ hSize ((rowsOf g k p ++ more).headD []) = p.length ∧ ((rowsOf g k p ++ more).headD [])[1]? = some 195 := by
 obtain ⟨x, r, hr, hx⟩ := rowsOf_ne g k p
 obtain ⟨z, hz⟩ := rowsOf_bytes g k p
 rw [hr] at hz
 simp only [mids, List.map_cons, List.flatten_cons] at hz
 rw [hr]
 show hGen x = g ∧ hSize x = p.length ∧ x[1]? = some 195
 refine ⟨?_, ?_, ?_⟩
 ·
  rw [← hGen_mid x _ hx, hz, fGen_seal z hg]
 ·
  rw [← hSize_mid x _ hx, hz, fSize_seal z hp]
 ·
  have h0 : (mid x ++ (r.map mid).flatten)[0]? = some 195 := by rw [hz, seal_cons]; rfl
  unfold mid at h0
  rw [List.getElem?_append_left (by rw [List.length_take, List.length_drop]; omega), List.getElem?_take, if_pos (by omega), List.getElem?_drop] at h0
  exact h0
theorem row_stands {g k : Nat} {p : List UInt8} (more : List (List UInt8)) (hg : g ≤ 1099511627776) (hk : k ≤ 2147483647) (hp : p.length ≤ 65536) :
  stands (rowsOf g k p ++ more) ∧ rowN (rowsOf g k p ++ more) = (rowsOf g k p).length ∧ rowG (rowsOf g k p ++ more) = g ∧ rowK (rowsOf g k p ++ more) = k ∧ rowP (rowsOf g k p ++ more) = p := by
 obtain ⟨h1, h2, h3⟩ := row_head (k := k) more hg hp
 have hn : rowN (rowsOf g k p ++ more) = (rowsOf g k p).length := by
  unfold rowN
  rw [h2, rowsOf_length, Nat.add_comm]
 have ht : (rowsOf g k p ++ more).take (rowN (rowsOf g k p ++ more)) = rowsOf g k p := by
  rw [hn, List.take_append_of_le_length (Nat.le_refl _), List.take_of_length_le (Nat.le_refl _)]
 obtain ⟨z, hz⟩ := rowsOf_bytes g k p
 have hb : rowBy (rowsOf g k p ++ more) = sealB g k p ++ z := by
  unfold rowBy
  rw [ht, hz]
 refine ⟨⟨?_, h3, by rw [h2]; exact hp, by rw [hn, List.length_append]; omega, ?_, by rw [hb]; exact isFrame_seal z hg hk hp⟩, hn, ?_, ?_, ?_⟩
 ·
  obtain ⟨x, r, hr, _⟩ := rowsOf_ne g k p
  rw [hr]
  simp
 ·
  rw [ht, h1]
  exact rowsOf_mk
 ·
  unfold rowG; rw [hb, fGen_seal z hg]
 ·
  unfold rowK; rw [hb, fNo_seal z hk]
 ·
  unfold rowP; rw [hb, fBody_seal z hp]
def recRows (g : Nat) : Nat → List (List UInt8) → List (List UInt8)
 | _, [] => []
 | k, r :: rs => rowsOf g k r ++ recRows g (k + 1) rs
theorem recRows_append (g : Nat) : ∀ (k : Nat) (l m : List (List UInt8)), recRows g k (l ++ m) = recRows g k l ++ recRows g (k + l.length) m
 | k, [], m => by simp [recRows]
 | k, r :: l, m => by
  rw [List.cons_append, recRows, recRows, recRows_append g (k + 1) l m, List.append_assoc, List.length_cons, show k + 1 + l.length = k + (l.length + 1) by omega]
theorem recRows_64 {g : Nat} : ∀ {k : Nat} {rs : List (List UInt8)}, ∀ b ∈ recRows g k rs, b.length = 64
 | _, [], b, hb => by simp [recRows] at hb
 | k, r :: rs, b, hb => by
  rw [recRows, List.mem_append] at hb
  rcases hb with h | h
  ·
   exact rowsOf_64 b h
  ·
   exact recRows_64 b h
theorem recRows_len (g : Nat) : ∀ (k : Nat) (rs : List (List UInt8)), rs.length ≤ (recRows g k rs).length
 | _, [] => by simp [recRows]
 | k, r :: rs => by
  have := recRows_len g (k + 1) rs
  have h1 : 1 ≤ (rowsOf g k r).length := by rw [rowsOf_length]; unfold needN; omega
  rw [recRows, List.length_append, List.length_cons]
  omega
theorem recsF_rows {g : Nat} (hg : g ≤ 1099511627776) : ∀ (rs : List (List UInt8)) (k : Nat) (A T : List (List UInt8)) (f : Nat), rs.length < f → k + rs.length ≤ 2147483648 → (∀ r ∈ rs, r.length ≤ 65536) →
  ¬ (stands T ∧ rowG T = g ∧ rowK T = k + rs.length) → recsF (A ++ (recRows g k rs ++ T)) g f k A.length = (rs, A.length + (recRows g k rs).length)
 | [], k, A, T, f, hf, _, _, hT => by
  obtain ⟨f', rfl⟩ : ∃ f', f = f' + 1 := ⟨f - 1, by simp at hf; omega⟩
  rw [recsF, recRows, List.nil_append, List.drop_append_of_le_length (Nat.le_refl _), List.drop_of_length_le (Nat.le_refl _), List.nil_append, if_neg (by simpa using hT)]
  rfl
 | r :: rs, k, A, T, f, hf, hk, hr, hT => by
  obtain ⟨f', rfl⟩ : ∃ f', f = f' + 1 := ⟨f - 1, by simp at hf; omega⟩
  simp only [List.length_cons] at hf hk hT
  obtain ⟨h1, h2, h3, h4, h5⟩ := row_stands (g := g) (k := k) (p := r) (recRows g (k + 1) rs ++ T) hg (by omega) (hr r (by simp))
  have hd : (A ++ (recRows g k (r :: rs) ++ T)).drop A.length = rowsOf g k r ++ (recRows g (k + 1) rs ++ T) := by
   rw [List.drop_append_of_le_length (Nat.le_refl _), List.drop_of_length_le (Nat.le_refl _), List.nil_append, recRows, List.append_assoc]
  have ih := recsF_rows hg rs (k + 1) (A ++ rowsOf g k r) T f' (by omega) (by omega) (fun x hx => hr x (by simp [hx])) (by rw [show k + 1 + rs.length = k + (rs.length + 1) by omega]; exact hT)
  rw [List.length_append] at ih
  rw [recsF, hd, if_pos ⟨h1, h3, h4⟩, h2, h5, recRows]
  rw [show A ++ (rowsOf g k r ++ recRows g (k + 1) rs ++ T) = A ++ rowsOf g k r ++ (recRows g (k + 1) rs ++ T) by simp, ih, List.length_append, Nat.add_assoc]
theorem readL_rows {g : Nat} (hg1 : 1 ≤ g) (hg : g ≤ 1099511627776) (s : List UInt8) (hs : s.length ≤ 65536) (rs : List (List UInt8)) (hr : ∀ r ∈ rs, r.length ≤ 65536) (hn : rs.length < 2147483647) (T : List (List UInt8))
  (hT : ¬ (stands T ∧ rowG T = g ∧ rowK T = 1 + rs.length)) : readL (rowsOf g 0 s ++ (recRows g 1 rs ++ T)) = ⟨g, s, rs, (rowsOf g 0 s).length + (recRows g 1 rs).length⟩ := by
 obtain ⟨h1, h2, h3, h4, h5⟩ := row_stands (g := g) (k := 0) (p := s) (recRows g 1 rs ++ T) hg (by omega) hs
 have hl := recRows_len g 1 rs
 have h1' : 1 ≤ (rowsOf g 0 s).length := by rw [rowsOf_length]; unfold needN; omega
 have hq := recsF_rows hg rs 1 (rowsOf g 0 s) T (rowsOf g 0 s ++ (recRows g 1 rs ++ T)).length (by rw [List.length_append, List.length_append]; omega) (by omega) hr hT
 unfold readL
 rw [if_pos ⟨h1, by rw [h3]; exact hg1, h4⟩, h3, h2, h5, hq]
theorem readL_none {L : List (List UInt8)} (h : ¬ stands L) : readL L = ⟨0, [], [], 0⟩ := by
 unfold readL
 rw [if_neg (fun e => h e.1)]
theorem recsF_bound (L : List (List UInt8)) (g : Nat) : ∀ (f k e : Nat), e ≤ L.length → (recsF L g f k e).1.length ≤ f ∧ e ≤ (recsF L g f k e).2 ∧ (recsF L g f k e).2 ≤ L.length
 | 0, k, e, h => by simp [recsF, h]
 | f + 1, k, e, h => by
  rw [recsF]
  split
  ·
   rename_i hs
   have h4 := hs.1.2.2.2.1
   rw [List.length_drop] at h4
   have ih := recsF_bound L g f (k + 1) (e + rowN (L.drop e)) (by omega)
   simp only [List.length_cons]
   omega
  ·
   simp [h]
theorem readL_bound (L : List (List UInt8)) : (readL L).recs.length ≤ L.length ∧ (readL L).fin ≤ L.length ∧ (readL L).gen ≤ 1099511627776 := by
 unfold readL
 split
 ·
  rename_i hs
  have h4 := hs.1.2.2.2.1
  have := recsF_bound L (rowG L) L.length 1 (rowN L) h4
  exact ⟨this.1, this.2.2, hs.1.2.2.2.2.2.2.2.1⟩
 ·
  simp
end Cam
