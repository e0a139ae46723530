import Derived.Test.YtgeclnjkkjmbaaaWsK
/- cambistref24: ReadReply. -/
namespace Cam
open Go Go.RowKit Go.Proofs

def RqRep (w : World) (l : List UInt8) (e : Ending) (w' : World) : Prop := ∃ val, e = .returned (.tuple #[val, .bool (decide ((readRp l).2 = 0))]) ∧ RepV w' w.heap.size val (readRp l).1 ∧ Below w.heap.size w w'
set_option maxRecDepth 100000 in
set_option maxHeartbeats 6400000 in
theorem rReadReply_any (w : World) (v : Value) (l : List UInt8) (h : Bs w v l) (hlen : l.length ≤ 70368744177664) :
    Calls Try.prog 23 #[v] w (RqRep w l) := by
  have hb1 : Below w.heap.size w (w.alloc (.cells #[.int .i64 0, .int .i64 0, .int .i64 0, .slice none 0 0, .slice none 0 0] 41)) := (Below.refl _ _).alloc (Nat.le_refl _) _
  have hb2 : Below w.heap.size w ((w.alloc (.cells #[.int .i64 0, .int .i64 0, .int .i64 0, .slice none 0 0, .slice none 0 0] 41)).alloc (.cells #[v, .int .i64 0, .int .i64 0] 98)) := hb1.alloc hb1.size _
  have hc1 : HT ((w.alloc (.cells #[.int .i64 0, .int .i64 0, .int .i64 0, .slice none 0 0, .slice none 0 0] 41)).alloc (.cells #[v, .int .i64 0, .int .i64 0] 98)) w.heap.size 41 [.int .i64 0, .int .i64 0, .int .i64 0, .slice none 0 0, .slice none 0 0] := (HT.new (w := w) (t := 41) (C := [.int .i64 0, .int .i64 0, .int .i64 0, .slice none 0 0, .slice none 0 0])).below ((Below.refl _ _).alloc (Nat.le_refl _) _)
  have hq : QPost 98 ((w.alloc (.cells #[.int .i64 0, .int .i64 0, .int .i64 0, .slice none 0 0, .slice none 0 0] 41)).alloc (.cells #[v, .int .i64 0, .int .i64 0] 98)) (w.heap.size + 1) l v (l, 0) ((w.alloc (.cells #[.int .i64 0, .int .i64 0, .int .i64 0, .slice none 0 0, .slice none 0 0] 41)).alloc (.cells #[v, .int .i64 0, .int .i64 0] 98)) :=
    ⟨0, ⟨heap_new (by simp), h.mono hb2, fun hn k hi => by have := h.inlt hn hi; omega, Nat.zero_le _⟩, by simp, Kept.refl _ _⟩
  have HB2 := Lib.hid hb2
  have HC1 := Lib.hid hc1
  have rr := rrep_any _ (w.heap.size + 1) l v (l, 0) hq hlen
  obtain ⟨av, cv, rfl, hcv, hmv⟩ := h.shape
  obtain ⟨n, hn⟩ : ∃ n, n = l.length := ⟨_, rfl⟩
  rw [← hn] at rr HB2 HC1 hcv ⊢
  have HN := Lib.hid hn
  clear hb1 hb2 hc1 hq h hlen hn
  go_enter Try.func23, Try.ntmps23
  go_wp2_with fail
  refine rr.mono ?_
  clear rr
  generalize hW : (w.alloc (.cells #[.int .i64 0, .int .i64 0, .int .i64 0, .slice none 0 0, .slice none 0 0] 41)).alloc (.cells #[.slice av n cv, .int .i64 0, .int .i64 0] 98) = W at *
  have HGW : Hid (w.heap.size + 2 = W.heap.size) := by show _ = _; rw [← hW]; simp
  clear hW
  rintro e w2 ⟨val, x, s', rfl, hv, hqr, hqp⟩
  have HV := Lib.hid hv
  obtain ⟨a1, n1, c1, a2, n2, c2, rfl, ho1, ho2⟩ := hv
  have hir := Inv.rep (Inv.start l) hqr
  obtain ⟨m2, hq2, hd2, hk2⟩ := hqp
  have hbn : Below w2.heap.size w2 (w2.alloc (.cells #[.int .i64 0, .int .i64 0, .int .i64 0, .slice none 0 0, .slice none 0 0] 41)) := (Below.refl _ _).alloc (Nat.le_refl _) _
  have hbs : Below w2.heap.size w2 ((w2.alloc (.cells #[.int .i64 0, .int .i64 0, .int .i64 0, .slice none 0 0, .slice none 0 0] 41)).setRow w2.heap.size #[.int .i64 x.c, .int .i64 x.n, .int .i64 x.a, .slice a1 n1 c1, .slice a2 n2 c2]) := hbn.trans (setRow_below (Nat.le_refl _) _)
  have dn := QDone_any _ (w.heap.size + 1) l _ m2 s'.2 (hq2.below hbs)
  rw [hd2] at dn
  have hgk := HC1.out.keptH hk2 (fun (e : w.heap.size = w.heap.size + 1) => by omega)
  have hb2 : Below w.heap.size w w2 := HB2.out.trans (hk2.below (fun k hk (e : k = w.heap.size + 1) => by omega) HB2.out.size)
  have HIR := Lib.hid hir
  have HK1 : Hid (HT ((w2.alloc (.cells #[.int .i64 0, .int .i64 0, .int .i64 0, .slice none 0 0, .slice none 0 0] 41)).setRow w2.heap.size #[.int .i64 x.c, .int .i64 x.n, .int .i64 x.a, .slice a1 n1 c1, .slice a2 n2 c2]) w.heap.size 41 [.int .i64 0, .int .i64 0, .int .i64 0, .slice none 0 0, .slice none 0 0]) := hgk.below hbs
  have HN2 : Hid (((w2.alloc (.cells #[.int .i64 0, .int .i64 0, .int .i64 0, .slice none 0 0, .slice none 0 0] 41)).setRow w2.heap.size #[.int .i64 x.c, .int .i64 x.n, .int .i64 x.a, .slice a1 n1 c1, .slice a2 n2 c2]).heap[w2.heap.size]? = some (.cells #[.int .i64 x.c, .int .i64 x.n, .int .i64 x.a, .slice a1 n1 c1, .slice a2 n2 c2] 41 (0, 0))) := setRow_heap _ _ _ _ _ _ (heap_alloc_new w2 _)
  have HB3 := Lib.hid (hb2.trans (hbs.mono hb2.size))
  have HV3 : Hid (RepV ((w2.alloc (.cells #[.int .i64 0, .int .i64 0, .int .i64 0, .slice none 0 0, .slice none 0 0] 41)).setRow w2.heap.size #[.int .i64 x.c, .int .i64 x.n, .int .i64 x.a, .slice a1 n1 c1, .slice a2 n2 c2]) W.heap.size (.agg #[.int .i64 x.c, .int .i64 x.n, .int .i64 x.a, .slice a1 n1 c1, .slice a2 n2 c2]) x) := HV.out.below hbs
  have HSZ : Hid ((Try.prog.info? 41).map (·.size) = some (#[.int .i64 x.c, .int .i64 x.n, .int .i64 x.a, .slice a1 n1 c1, .slice a2 n2 c2] : Array Value).size) := by show _ = _; rw [repSz]; rfl
  have HS17 : Hid ((#[.int .i64 0, .int .i64 0, .int .i64 0, .slice none 0 0, .slice none 0 0] : Array Value).size = (#[.int .i64 x.c, .int .i64 x.n, .int .i64 x.a, .slice a1 n1 c1, .slice a2 n2 c2] : Array Value).size) := by show _ = _; rfl
  have HONE : Hid ((#[.int .i64 x.c, .int .i64 x.n, .int .i64 x.a, .slice a1 n1 c1, .slice a2 n2 c2] : Array Value).all (·.oneCell') = true) := by show _ = _; simp [Value.oneCell']
  obtain ⟨d, hd⟩ : ∃ d, d = rD s' := ⟨_, rfl⟩
  rw [show rD (s'.1, s'.2) = rD s' from rfl, ← hd] at dn
  have HE : Hid (readRp l = if 65536 < n then (RepT.zero, 6) else if d = 0 then (x, 0) else (RepT.zero, 6)) := by
    show _ = _
    have hdn := Inv.done HIR.out.1
    unfold readRp
    rw [← HN.out]
    split
    · rfl
    · by_cases hz : dE (rpW false (l, 0)) (rpF false (l, 0)).2 = 0
      · rw [if_pos hz, if_pos (by rw [hd]; exact hdn.1.1 hz), HIR.out.2 (hdn.2 hz)]
      · rw [if_neg hz, if_neg (by rw [hd]; exact fun h => hz (hdn.1.2 h))]
  clear ho1 ho2 hir hq2 hd2 hk2 hbn hbs hgk hb2 hd hqr
  go_wp2_with (first
    | (refine wpList_store_row rfl 41 (.tmp 5) (.tmp 14) rfl w2.heap.size #[.int .i64 x.c, .int .i64 x.n, .int .i64 x.a, .slice a1 n1 c1, .slice a2 n2 c2] rfl rfl 41 #[.int .i64 0, .int .i64 0, .int .i64 0, .slice none 0 0, .slice none 0 0] (heap_alloc_new w2 _) HSZ.out HS17.out HONE.out ?_)
    | fail)
  refine dn.mono ?_
  clear dn
  generalize hW : (w2.alloc (.cells #[.int .i64 0, .int .i64 0, .int .i64 0, .slice none 0 0, .slice none 0 0] 41)).setRow w2.heap.size #[.int .i64 x.c, .int .i64 x.n, .int .i64 x.a, .slice a1 n1 c1, .slice a2 n2 c2] = W3 at *
  clear hW
  rintro e w3 ⟨rfl, hb4⟩
  have HG5 : Hid (w3.heap[w2.heap.size]? = some (.cells #[.int .i64 x.c, .int .i64 x.n, .int .i64 x.a, .slice a1 n1 c1, .slice a2 n2 c2] 41 (0, 0))) := (show HT W3 w2.heap.size 41 [.int .i64 x.c, .int .i64 x.n, .int .i64 x.a, .slice a1 n1 c1, .slice a2 n2 c2] from HN2.out).below hb4
  have HG2 : Hid (w3.heap[w.heap.size]? = some (.cells #[.int .i64 0, .int .i64 0, .int .i64 0, .slice none 0 0, .slice none 0 0] 41 (0, 0))) := HK1.out.below hb4
  have HB4 := Lib.hid (HB3.out.trans (hb4.mono HB3.out.size))
  have HV4 := Lib.hid (HV3.out.below hb4)
  clear hb4
  by_cases hz : d = 0
  · subst hz
    by_cases hlong : 65536 < n
    · have HEE := Lib.hid (show readRp l = (RepT.zero, 6) by rw [HE.out, if_pos hlong])
      go_wp2_with (first
        | (refine wpList_store_row rfl 41 (.tmp 2) (.tmp 25) rfl w.heap.size #[.int .i64 0, .int .i64 0, .int .i64 0, .slice none 0 0, .slice none 0 0] rfl rfl 41 #[.int .i64 0, .int .i64 0, .int .i64 0, .slice none 0 0, .slice none 0 0] HG2.out readRp_zsz rfl readRp_zone ?_)
        | fail)
      refine bodyPost_ret (results_row_tmp rfl _ _ w.heap.size 41 #[.int .i64 0, .int .i64 0, .int .i64 0, .slice none 0 0, .slice none 0 0] (0, 0) _ rfl (setRow_heap _ _ _ _ _ _ HG2.out) Try.underlying41 rfl readRp_zsz rfl) rfl ?_
      exact ⟨_, by rw [HEE.out]; rfl, by rw [HEE.out]; exact RepV_zero _ _, HB4.out.trans (setRow_below (Nat.le_refl _) _)⟩
    · have HEE := Lib.hid (show readRp l = (x, 0) by rw [HE.out, if_neg hlong, if_pos rfl])
      go_wp2_with (first
        | (refine wpList_load_row rfl 41 (.tmp 5) rfl w2.heap.size rfl 41 #[.int .i64 x.c, .int .i64 x.n, .int .i64 x.a, .slice a1 n1 c1, .slice a2 n2 c2] (0, 0) _ HG5.out Try.underlying41 rfl HSZ.out ?_)
        | (refine wpList_store_row rfl 41 (.tmp 2) (.tmp 26) rfl w.heap.size #[.int .i64 x.c, .int .i64 x.n, .int .i64 x.a, .slice a1 n1 c1, .slice a2 n2 c2] rfl rfl 41 #[.int .i64 0, .int .i64 0, .int .i64 0, .slice none 0 0, .slice none 0 0] HG2.out HSZ.out HS17.out HONE.out ?_)
        | fail)
      refine bodyPost_ret (results_row_tmp rfl _ _ w.heap.size 41 #[.int .i64 x.c, .int .i64 x.n, .int .i64 x.a, .slice a1 n1 c1, .slice a2 n2 c2] (0, 0) _ rfl (setRow_heap _ _ _ _ _ _ HG2.out) Try.underlying41 rfl HSZ.out rfl) rfl ?_
      refine ⟨_, by rw [HEE.out]; rfl, ?_, HB4.out.trans (setRow_below (Nat.le_refl _) _)⟩
      rw [HEE.out]
      have hkr : Kept (fun k => k = w.heap.size) w3 (w3.setRow w.heap.size #[.int .i64 x.c, .int .i64 x.n, .int .i64 x.a, .slice a1 n1 c1, .slice a2 n2 c2]) := ⟨rfl, rfl, rfl, by simp [World.setRow], fun k _ hn => setRow_other _ _ _ _ hn⟩
      exact (HV4.out.kept hkr (fun k hk (e : k = w.heap.size) => by have := HGW.out; omega)).base (by have := HGW.out; omega)
  · have hz' : (d != 0) = true := by rw [bne_iff_ne]; exact hz
    have HEE := Lib.hid (show readRp l = (RepT.zero, 6) by rw [HE.out, if_neg hz]; split <;> rfl)
    clear hz
    go_wp2_with (first
      | (refine wpList_store_row rfl 41 (.tmp 2) (.tmp 25) rfl w.heap.size #[.int .i64 0, .int .i64 0, .int .i64 0, .slice none 0 0, .slice none 0 0] rfl rfl 41 #[.int .i64 0, .int .i64 0, .int .i64 0, .slice none 0 0, .slice none 0 0] HG2.out readRp_zsz rfl readRp_zone ?_)
      | fail)
    refine bodyPost_ret (results_row_tmp rfl _ _ w.heap.size 41 #[.int .i64 0, .int .i64 0, .int .i64 0, .slice none 0 0, .slice none 0 0] (0, 0) _ rfl (setRow_heap _ _ _ _ _ _ HG2.out) Try.underlying41 rfl readRp_zsz rfl) rfl ?_
    exact ⟨_, by rw [HEE.out]; rfl, by rw [HEE.out]; exact RepV_zero _ _, HB4.out.trans (setRow_below (Nat.le_refl _) _)⟩
end Cam
