import Derived.Test.YtlnclfiiplpaiaaFrFirst
/- What was sealed is a frame; a strict beginning of it is none; what is spoilt is none. No walk. -/
namespace Cam
open Go Go.RowKit Go.Proofs

theorem seal_cons (g k : Nat) (p more : List UInt8) : sealB g k p ++ more = 195 :: (be 8 g ++ (be 4 k ++ (be 4 p.length ++ (be 4 (crc (headB g k p ++ p)) ++ (p ++ more))))) := by
  simp [sealB, headB]

theorem drop_be (n x m : Nat) (r : List UInt8) (h : n ≤ m) : (be n x ++ r).drop m = r.drop (m - n) := by
  rw [List.drop_append, be_length, List.drop_of_length_le (by rw [be_length]; exact h), List.nil_append]
theorem take_be (n x : Nat) (r : List UInt8) : (be n x ++ r).take n = be n x := by
  rw [List.take_append_of_le_length (by rw [be_length]; exact Nat.le_refl _), List.take_of_length_le (by rw [be_length]; exact Nat.le_refl _)]

theorem fGen_seal {g k : Nat} {p : List UInt8} (more : List UInt8) (hg : g ≤ 1099511627776) : fGen (sealB g k p ++ more) = g := by
  unfold fGen
  rw [seal_cons, List.drop_succ_cons, List.drop_zero, take_be, unbe_be_of_lt (by omega)]
theorem fNo_seal {g k : Nat} {p : List UInt8} (more : List UInt8) (hk : k ≤ 2147483647) : fNo (sealB g k p ++ more) = k := by
  unfold fNo
  rw [seal_cons, List.drop_succ_cons, drop_be _ _ _ _ (by omega)]
  simp only [Nat.sub_self, List.drop_zero]
  rw [take_be, unbe_be_of_lt (by omega)]
theorem fSize_seal {g k : Nat} {p : List UInt8} (more : List UInt8) (hp : p.length ≤ 65536) : fSize (sealB g k p ++ more) = p.length := by
  unfold fSize
  rw [seal_cons, List.drop_succ_cons, drop_be _ _ _ _ (by omega), drop_be _ _ _ _ (by omega)]
  simp only [Nat.reduceSub, List.drop_zero]
  rw [take_be, unbe_be_of_lt (by omega)]
theorem fSum_seal {g k : Nat} {p : List UInt8} (more : List UInt8) : fSum (sealB g k p ++ more) = crc (headB g k p ++ p) := by
  unfold fSum fSumB
  rw [seal_cons, List.drop_succ_cons, drop_be _ _ _ _ (by omega), drop_be _ _ _ _ (by omega), drop_be _ _ _ _ (by omega)]
  simp only [Nat.reduceSub, List.drop_zero]
  rw [take_be, unbe_be_of_lt (by have := crc_lt (headB g k p ++ p); omega)]
theorem fBody_seal {g k : Nat} {p : List UInt8} (more : List UInt8) (hp : p.length ≤ 65536) : fBody (sealB g k p ++ more) = p := by
  unfold fBody
  rw [fSize_seal more hp, seal_cons, List.drop_succ_cons, drop_be _ _ _ _ (by omega), drop_be _ _ _ _ (by omega), drop_be _ _ _ _ (by omega), drop_be _ _ _ _ (by omega)]
  simp only [Nat.reduceSub, List.drop_zero]
  rw [List.take_append_of_le_length (Nat.le_refl _), List.take_of_length_le (Nat.le_refl _)]
theorem fHead_seal {g k : Nat} {p : List UInt8} (more : List UInt8) : fHead (sealB g k p ++ more) = headB g k p := by
  unfold fHead
  have e : sealB g k p ++ more = 195 :: (headB g k p ++ (be 4 (crc (headB g k p ++ p)) ++ (p ++ more))) := by simp [sealB]
  rw [e, List.drop_succ_cons, List.drop_zero, List.take_append_of_le_length (by rw [headB_length]; omega), List.take_of_length_le (by rw [headB_length]; omega)]

theorem isFrame_seal {g k : Nat} {p : List UInt8} (more : List UInt8) (hg : g ≤ 1099511627776) (hk : k ≤ 2147483647) (hp : p.length ≤ 65536) : isFrame (sealB g k p ++ more) := by
  refine ⟨by rw [List.length_append, sealB_length]; omega, by rw [seal_cons]; rfl, by rw [fGen_seal more hg]; exact hg, by rw [fNo_seal more hk]; exact hk, by rw [fSize_seal more hp]; exact hp, ?_, ?_⟩
  · rw [fSize_seal more hp, List.length_append, sealB_length]; omega
  · rw [fHead_seal, fBody_seal more hp, fSum_seal]

theorem frLen_seal {g k : Nat} {p : List UInt8} (more : List UInt8) (hp : p.length ≤ 65536) : frLen (sealB g k p ++ more) = p.length + 21 := by
  unfold frLen; rw [fSize_seal more hp]

/-- no strict beginning of a frame is a frame -/
theorem cut_noFrame {g k : Nat} {p : List UInt8} (hp : p.length ≤ 65536) {m : Nat} (hm : m < (sealB g k p).length) : ¬ isFrame ((sealB g k p).take m) := by
  intro hf
  have hl : ((sealB g k p).take m).length = m := by rw [List.length_take]; omega
  have h1 := hf.1
  rw [hl] at h1
  have h6 := hf.2.2.2.2.2.1
  rw [hl] at h6
  have hs : fSize ((sealB g k p).take m) = p.length := by
    have := fSize_seal (g := g) (k := k) [] hp
    rw [List.append_nil] at this
    rw [← this]
    unfold fSize
    congr 1
    rw [List.drop_take, List.take_take]
    congr 1
    omega
  rw [hs] at h6
  rw [sealB_length] at hm
  omega

end Cam
