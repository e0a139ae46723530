import Derived.Test.YtgeclnjkkjmbaaaGreatWqG
import Derived.Test.YtgeclnjkkjmbaaaGreatYpLz
/- cambistref24: ReadState: seats. -/
namespace Cam
open Go Go.RowKit Go.Proofs
set_option linter.unusedVariables false
set_option linter.unusedSimpArgs false
set_option maxRecDepth 100000
set_option maxHeartbeats 6400000
def RsP_sea (w : World) (g ga gb27 : Nat) (B : List UInt8) (v : Value) (u27 : RS) (M27 : World → Prop) (y0 : Int) (y1 : Int) (y2 : Int) (ra1 : Option Addr) (rn1 : Nat) (rc1 : Nat) (ra2 : Option Addr) (rn2 : Nat) (rc2 : Nat) (ra3 : Option Addr) (rn3 : Nat) (rc3 : Nat) (yb : Int) (ba1 : Option Addr) (bn1 : Nat) (bc1 : Nat) (ba2 : Option Addr) (bn2 : Nat) (bc2 : Nat) (yl : Int) (a23 : Option Addr) (n23 : Nat) (c23 : Nat) (a24 : Option Addr) (n24 : Nat) (c24 : Nat) (a25 : Option Addr) (n25 : Nat) (c25 : Nat) (a26 : Option Addr) (n26 : Nat) (c26 : Nat) (wx : World) : Prop := ∃ LV LQ t a n c, QSL u27 LQ t ∧ QM w g B v t (fun x => M27 x ∧ HT x ga 41 [y0, y1, y2, .slice ra1 rn1 rc1, .slice ra2 rn2 rc2, .slice ra3 rn3 rc3, yb, .slice ba1 bn1 bc1, .slice ba2 bn2 bc2, yl, .slice a23 n23 c23, .slice a24 n24 c24, .slice a25 n25 c25, .slice a26 n26 c26, .slice a n c] ∧ SeOwn x gb27 (.slice a n c) LV LQ) wx
theorem RsP_sea.mk {w : World} {g ga gb27 : Nat} {B : List UInt8} {v : Value} {u27 : RS} {M27 : World → Prop} {y0 : Int} {y1 : Int} {y2 : Int} {ra1 : Option Addr} {rn1 : Nat} {rc1 : Nat} {ra2 : Option Addr} {rn2 : Nat} {rc2 : Nat} {ra3 : Option Addr} {rn3 : Nat} {rc3 : Nat} {yb : Int} {ba1 : Option Addr} {bn1 : Nat} {bc1 : Nat} {ba2 : Option Addr} {bn2 : Nat} {bc2 : Nat} {yl : Int} {a23 : Option Addr} {n23 : Nat} {c23 : Nat} {a24 : Option Addr} {n24 : Nat} {c24 : Nat} {a25 : Option Addr} {n25 : Nat} {c25 : Nat} {a26 : Option Addr} {n26 : Nat} {c26 : Nat} {wx : World} (h : ∃ LV LQ t a n c, QSL u27 LQ t ∧ QM w g B v t (fun x => M27 x ∧ HT x ga 41 [y0, y1, y2, .slice ra1 rn1 rc1, .slice ra2 rn2 rc2, .slice ra3 rn3 rc3, yb, .slice ba1 bn1 bc1, .slice ba2 bn2 bc2, yl, .slice a23 n23 c23, .slice a24 n24 c24, .slice a25 n25 c25, .slice a26 n26 c26, .slice a n c] ∧ SeOwn x gb27 (.slice a n c) LV LQ) wx) : RsP_sea w g ga gb27 B v u27 M27 y0 y1 y2 ra1 rn1 rc1 ra2 rn2 rc2 ra3 rn3 rc3 yb ba1 bn1 bc1 ba2 bn2 bc2 yl a23 n23 c23 a24 n24 c24 a25 n25 c25 a26 n26 c26 wx := h
theorem rs_sea {w w1 : World} {g ga gb27 N : Nat} {B : List UInt8} {v : Value} {u27 mt : RS} {M27 : World → Prop} {y0 : Int} {y1 : Int} {y2 : Int} {ra1 : Option Addr} {rn1 : Nat} {rc1 : Nat} {ra2 : Option Addr} {rn2 : Nat} {rc2 : Nat} {ra3 : Option Addr} {rn3 : Nat} {rc3 : Nat} {yb : Int} {ba1 : Option Addr} {bn1 : Nat} {bc1 : Nat} {ba2 : Option Addr} {bn2 : Nat} {bc2 : Nat} {yl : Int} {a23 : Option Addr} {n23 : Nat} {c23 : Nat} {a24 : Option Addr} {n24 : Nat} {c24 : Nat} {a25 : Option Addr} {n25 : Nat} {c25 : Nat} {a26 : Option Addr} {n26 : Nat} {c26 : Nat} {vv0 vv1 vv2 vv3 vv6 vv7 vv8 vv9 vv10 vv11 vv12 vv14 vv15 vv16 vv17 vv18 vv19 vv20 vv21 vv22 vv23 vv24 vv25 vv26 vv27 vv28 vv29 vv30 vv31 vv32 vv33 vv34 vv35 vv36 vv37 vv38 vv39 vv40 vv41 vv42 vv43 vv44 vv45 vv46 vv47 vv48 vv49 vv50 vv51 vv52 vv53 vv54 vv55 vv56 vv57 vv58 vv59 vv60 vv61 vv62 vv63 vv64 vv65 vv66 vv67 vv68 vv69 vv70 vv71 vv72 vv73 vv74 vv75 vv76 vv77 vv78 vv79 vv80 vv81 vv82 vv83 vv84 vv85 vv86 vv87 vv88 vv89 vv90 vv91 vv92 vv93 vv94 vv95 vv96 vv97 vv98 vv99 vv100 vv101 vv102 vv103 vv104 vv105 vv106 vv107 vv108 vv109 vv110 vv111 vv112 vv113 vv114 vv115 vv116 vv117 vv118 vv119 vv120 vv121 vv122 vv123 vv124 vv125 vv126 vv127 vv128 vv129 vv130 vv131 vv132 vv133 vv134 vv135 vv136 vv137 vv138 vv139 vv140 vv141 vv142 vv143 vv144 vv145 vv146 vv147 vv148 vv149 vv150 vv151 vv152 vv153 vv154 vv155 vv156 vv157 vv158 vv159 vv160 vv161 vv162 vv163 vv164 vv165 vv166 vv167 vv168 vv169 vv170 vv171 vv172 vv173 vv174 vv175 vv176 vv177 vv178 vv179 vv180 vv181 vv182 vv183 vv184 vv185 vv186 vv187 vv188 vv189 vv190 vv191 vv192 vv193 vv194 vv195 vv196 vv197 vv198 vv199 vv200 vv201 vv202 vv203 vv204 vv205 vv206 vv207 vv208 vv209 vv210 vv211 vv212 vv213 vv214 vv215 vv216 vv217 vv218 vv219 vv220 vv221 vv222 vv223 vv224 vv225 vv226 vv227 vv228 vv229 vv230 vv231 vv232 vv233 vv234 vv235 vv236 vv237 vv238 vv239 vv240 vv241 vv242 vv243 : Value} {K : Act → World → Prop} {R : Ending → World → Prop} (HLEN : Hid (B.length ≤ 70368744177664)) (HNE27 : Hid (g < ga ∧ w.heap.size ≤ ga ∧ ga < gb27)) (HFM27 : Hid (Firm (fun k => k = g ∨ k = ga ∨ gb27 ≤ k) M27)) (HB27 : Hid (∀ x, M27 x → gb27 ≤ x.heap.size)) (HMN : Hid ((mny u27).1.toNat = N ∧ mt = (mny u27).2 ∧ N ≤ 1024)) (HQ1 : Hid (QM w g B v mt (fun x => M27 x ∧ HT x ga 41 [y0, y1, y2, .slice ra1 rn1 rc1, .slice ra2 rn2 rc2, .slice ra3 rn3 rc3, yb, .slice ba1 bn1 bc1, .slice ba2 bn2 bc2, yl, .slice a23 n23 c23, .slice a24 n24 c24, .slice a25 n25 c25, .slice a26 n26 c26, ()] ∧ SeOwn x gb27 (.slice none 0 0) [] []) w1))
  (hQ : ∀ (xx13 xx14 xx202 xx203 xx204 xx205 xx206 xx207 xx208 xx209 xx210 xx211 xx212 xx213 xx214 xx215 xx216 xx217 xx218 xx219 xx220 xx221 xx222 xx223 xx224 xx225 xx226 xx227 xx228 xx229 xx230 xx231 : Value) (wx : World), RsP_sea w g ga gb27 B v u27 M27 y0 y1 y2 ra1 rn1 rc1 ra2 rn2 rc2 ra3 rn3 rc3 yb ba1 bn1 bc1 ba2 bn2 bc2 yl a23 n23 c23 a24 n24 c24 a25 n25 c25 a26 n26 c26 wx → K { tmps := #[vv0, vv1, vv2, vv3, .pointer (some ⟨g, 0, none⟩), .pointer (some ⟨ga, 0, none⟩), vv6, vv7, vv8, vv9, vv10, vv11, vv12, xx13, xx14, vv15, vv16, vv17, vv18, vv19, vv20, vv21, vv22, vv23, vv24, vv25, vv26, vv27, vv28, vv29, vv30, vv31, vv32, vv33, vv34, vv35, vv36, vv37, vv38, vv39, vv40, vv41, vv42, vv43, vv44, vv45, vv46, vv47, vv48, vv49, vv50, vv51, vv52, vv53, vv54, vv55, vv56, vv57, vv58, vv59, vv60, vv61, vv62, vv63, vv64, vv65, vv66, vv67, vv68, vv69, vv70, vv71, vv72, vv73, vv74, vv75, vv76, vv77, vv78, vv79, vv80, vv81, vv82, vv83, vv84, vv85, vv86, vv87, vv88, vv89, vv90, vv91, vv92, vv93, vv94, vv95, vv96, vv97, vv98, vv99, vv100, vv101, vv102, vv103, vv104, vv105, vv106, vv107, vv108, vv109, vv110, vv111, vv112, vv113, vv114, vv115, vv116, vv117, vv118, vv119, vv120, vv121, vv122, vv123, vv124, vv125, vv126, vv127, vv128, vv129, vv130, vv131, vv132, vv133, vv134, vv135, vv136, vv137, vv138, vv139, vv140, vv141, vv142, vv143, vv144, vv145, vv146, vv147, vv148, vv149, vv150, vv151, vv152, vv153, vv154, vv155, vv156, vv157, vv158, vv159, vv160, vv161, vv162, vv163, vv164, vv165, vv166, vv167, vv168, vv169, vv170, vv171, vv172, vv173, vv174, vv175, vv176, vv177, vv178, vv179, vv180, vv181, vv182, vv183, vv184, vv185, vv186, vv187, vv188, vv189, vv190, vv191, vv192, vv193, vv194, vv195, vv196, vv197, vv198, vv199, vv200, vv201, xx202, xx203, xx204, xx205, xx206, xx207, xx208, xx209, xx210, xx211, xx212, xx213, xx214, xx215, xx216, xx217, xx218, xx219, xx220, xx221, xx222, xx223, xx224, xx225, xx226, xx227, xx228, xx229, xx230, xx231, vv232, vv233, vv234, vv235, vv236, vv237, vv238, vv239, vv240, vv241, vv242, vv243], defers := [] } wx) :
  Code.wp Tryz.prog (codeAt [true, true, true, true, true, true, true, true, true, true, true, false, true] Tryz.f13) (Exit.then K (bodyPost Tryz.prog Tryz.f13 R)) { tmps := #[vv0, vv1, vv2, vv3, .pointer (some ⟨g, 0, none⟩), .pointer (some ⟨ga, 0, none⟩), vv6, vv7, vv8, vv9, vv10, vv11, vv12, .int .i64 (N : Int), vv14, vv15, vv16, vv17, vv18, vv19, vv20, vv21, vv22, vv23, vv24, vv25, vv26, vv27, vv28, vv29, vv30, vv31, vv32, vv33, vv34, vv35, vv36, vv37, vv38, vv39, vv40, vv41, vv42, vv43, vv44, vv45, vv46, vv47, vv48, vv49, vv50, vv51, vv52, vv53, vv54, vv55, vv56, vv57, vv58, vv59, vv60, vv61, vv62, vv63, vv64, vv65, vv66, vv67, vv68, vv69, vv70, vv71, vv72, vv73, vv74, vv75, vv76, vv77, vv78, vv79, vv80, vv81, vv82, vv83, vv84, vv85, vv86, vv87, vv88, vv89, vv90, vv91, vv92, vv93, vv94, vv95, vv96, vv97, vv98, vv99, vv100, vv101, vv102, vv103, vv104, vv105, vv106, vv107, vv108, vv109, vv110, vv111, vv112, vv113, vv114, vv115, vv116, vv117, vv118, vv119, vv120, vv121, vv122, vv123, vv124, vv125, vv126, vv127, vv128, vv129, vv130, vv131, vv132, vv133, vv134, vv135, vv136, vv137, vv138, vv139, vv140, vv141, vv142, vv143, vv144, vv145, vv146, vv147, vv148, vv149, vv150, vv151, vv152, vv153, vv154, vv155, vv156, vv157, vv158, vv159, vv160, vv161, vv162, vv163, vv164, vv165, vv166, vv167, vv168, vv169, vv170, vv171, vv172, vv173, vv174, vv175, vv176, vv177, vv178, vv179, vv180, vv181, vv182, vv183, vv184, vv185, vv186, vv187, vv188, vv189, vv190, vv191, vv192, vv193, vv194, vv195, vv196, vv197, vv198, vv199, vv200, vv201, vv202, vv203, vv204, vv205, vv206, vv207, vv208, vv209, vv210, vv211, vv212, vv213, vv214, vv215, vv216, vv217, vv218, vv219, vv220, vv221, vv222, vv223, vv224, vv225, vv226, vv227, vv228, vv229, vv230, vv231, vv232, vv233, vv234, vv235, vv236, vv237, vv238, vv239, vv240, vv241, vv242, vv243], defers := [] } w1 := by
 refine wp_at (c := _) rfl (.r (.r (.r (.r (.r (.r (.r (.r (.r (.r (.r (.l (.r (.nil)))))))))))))) ?_
 go_wp2_with fail
 go_loopw [13] (fun v4 wr => ∃ (k : Nat) (a0 : Option Addr) (n0 c0 : Nat) (LV : List SV) (LQ : List SeT) (tt : RS), k ≤ N ∧ v4 = .int .i64 ((N : Int) - k) ∧ QSs k mt LQ tt ∧ QM w g B v tt (fun x => M27 x ∧ HT x ga 41 [y0, y1, y2, .slice ra1 rn1 rc1, .slice ra2 rn2 rc2, .slice ra3 rn3 rc3, yb, .slice ba1 bn1 bc1, .slice ba2 bn2 bc2, yl, .slice a23 n23 c23, .slice a24 n24 c24, .slice a25 n25 c25, .slice a26 n26 c26, .slice a0 n0 c0] ∧ SeOwn x gb27 (.slice a0 n0 c0) LV LQ) wr) (fun i _ => (intOf i).toNat)
 case atStart => exact ⟨0, none, 0, 0, [], [], mt, Nat.zero_le _, by simp, ⟨rfl, rfl⟩, HQ1.out⟩
 case round =>
  obtain ⟨k, a0, n0, c0, LV, LQ, t27_0, hk, rfl, hqs, hq⟩ := hrel
  have hlr := QSs.len hqs
  have hlv := hq.2.2.2.2.1
  have HLE : Hid ((LV.length + 1) * 88 ≤ 140737488355328) := by have := HMN.out.2.2; show _ ≤ _; omega
  have hcb : wr.cell? ⟨g, 2, none⟩ = some (.int .i64 t27_0.2) := by obtain ⟨m, h1, _⟩ := hq.1; exact h1.cells.2.2.1
  have HQB := Lh hq
  have HQSS := Lh hqs
  have HQL : Hid ((k = N ∨ t27_0.2 ≠ 0) → QSL u27 LQ t27_0) := fun h => ⟨k, by rw [HMN.out.1]; exact hk, by rw [← HMN.out.2.1]; exact HQSS.out, by rw [HMN.out.1]; exact h⟩
  obtain ⟨b, hb⟩ : ∃ b, b = t27_0.2 := ⟨_, rfl⟩
  rw [← hb] at hcb HQL
  clear hlr hlv hb hqs
  by_cases hltN : k < N
  ·
   have hpos : (0 : Int) < (N : Int) - (k : Int) := by omega
   have hup : (N : Int) - (k : Int) ≤ 1024 := by have := HMN.out.2.2; omega
   by_cases hz : b = 0
   ·
    subst hz
    obtain ⟨z0, hz0⟩ : ∃ y, y = (rI t27_0).1 := ⟨_, rfl⟩
    obtain ⟨t27_1, ht27_1⟩ : ∃ s, s = (rI t27_0).2 := ⟨_, rfl⟩
    have p0 : ∀ (M : World → Prop) w1, Firm (fun k => k = g) M → QM w g B v t27_0 M w1 → Calls Tryz.prog 34 #[.pointer (some ⟨g, 0, none⟩)] w1 fun r w2 => r = .returned (.int .i64 z0) ∧ QM w g B v t27_1 M w2 := fun M w1 hf h => by rw [hz0, ht27_1]; exact QM_Int hf rfl h HLEN.out
    obtain ⟨z1, hz1⟩ : ∃ y, y = (rI t27_1).1 := ⟨_, rfl⟩
    obtain ⟨t27_2, ht27_2⟩ : ∃ s, s = (rI t27_1).2 := ⟨_, rfl⟩
    have p1 : ∀ (M : World → Prop) w1, Firm (fun k => k = g) M → QM w g B v t27_1 M w1 → Calls Tryz.prog 34 #[.pointer (some ⟨g, 0, none⟩)] w1 fun r w2 => r = .returned (.int .i64 z1) ∧ QM w g B v t27_2 M w2 := fun M w1 hf h => by rw [hz1, ht27_2]; exact QM_Int hf rfl h HLEN.out
    have HP : Hid (rIs 2 t27_0 = ([z0, z1], t27_2)) := by
     show _ = _
     simp only [rIs, List.nil_append, List.cons_append]
     rw [← hz0, ← ht27_1, ← hz1, ← ht27_2]
    clear hz0 ht27_1 hz1 ht27_2
    obtain ⟨gb9, hgb9⟩ : ∃ b, b = wr.heap.size := ⟨_, rfl⟩
    have hltF := SeOwn.lts hq.2.2.2
    have hgaF := hq.2.2.1.lt
    have hszF := HB27.out _ hq.2.1
    rw [← hgb9] at hltF hgaF hszF
    have HNEF : Hid (g < ga ∧ w.heap.size ≤ ga ∧ ga < gb9 ∧ gb27 ≤ gb9) := by have := HNE27.out; show _ ∧ _ ∧ _ ∧ _; omega
    obtain ⟨M9, hM9⟩ : ∃ M : World → Prop, M = (fun x => (M27 x ∧ HT x ga 41 [y0, y1, y2, .slice ra1 rn1 rc1, .slice ra2 rn2 rc2, .slice ra3 rn3 rc3, yb, .slice ba1 bn1 bc1, .slice ba2 bn2 bc2, yl, .slice a23 n23 c23, .slice a24 n24 c24, .slice a25 n25 c25, .slice a26 n26 c26, .slice a0 n0 c0] ∧ SeOwn x gb27 (.slice a0 n0 c0) LV LQ) ∧ gb9 ≤ x.heap.size) := ⟨_, rfl⟩
    have HFM9 : Hid (Firm (fun k => k = g ∨ gb9 ≤ k) M9) := by
     show Firm _ _
     rw [hM9]
     exact Firm.and (Firm.and (Firm.mono HFM27.out (fun k h => by rcases h with h | h; exact .inl h; exact .inr (.inr (by have := HNEF.out; omega)))) (Firm.and (Firm.ht (by have := HNEF.out; omega)) (Firm.seo hltF (fun k h1 h2 e => by have := HNEF.out; have := HNE27.out; omega)))) Firm.size
    have HF9 : Hid (Firm (fun k => k = g) M9) := Firm.mono HFM9.out (fun k h => .inl h)
    have HB9 : Hid (∀ x, M9 x → gb9 ≤ x.heap.size) := by intro x hx; rw [hM9] at hx; exact hx.2
    have HX9 : Hid (∀ x, M9 x → M27 x ∧ HT x ga 41 [y0, y1, y2, .slice ra1 rn1 rc1, .slice ra2 rn2 rc2, .slice ra3 rn3 rc3, yb, .slice ba1 bn1 bc1, .slice ba2 bn2 bc2, yl, .slice a23 n23 c23, .slice a24 n24 c24, .slice a25 n25 c25, .slice a26 n26 c26, .slice a0 n0 c0] ∧ SeOwn x gb27 (.slice a0 n0 c0) LV LQ) := by intro x hx; rw [hM9] at hx; exact hx.1
    have HQ9x : Hid (QM w g B v t27_0 M9 wr) := ⟨hq.1, by rw [hM9]; exact ⟨hq.2, by omega⟩⟩
    have HLT9 := Lh hltF
    clear hq hgb9 hltF hgaF hszF hM9
    go_upto_region 29 with fail
    go_cut [14] from 202 to 231 (fun v6 wx => ∃ gf, v6 = .pointer (some ⟨gf, 0, none⟩) ∧ QM w g B v t27_2 (fun x => M9 x ∧ HT x gf 76 [z0, z1, (0:Int), (0:Int), (0:Int), (), ()]) wx ∧ g < gf ∧ w.heap.size ≤ gf ∧ gb9 ≤ gf)
    case first =>
     refine wp_region_uni (S0 := fun _ => True) (S := QM w g B v t27_0 M9) 10 (by kernel_rfl) (QM.below HF9.out HQ9x.out (Below.refl _ _).drew) ?_
     refine uP 6 [(0, some 214, .pointer (some ⟨g, 0, none⟩)), (1, some 215, .pointer (some ⟨g, 0, none⟩)), (2, some 216, .pointer (some ⟨g, 0, none⟩)), (4, some 218, .pointer (some ⟨g, 0, none⟩)), (5, some 219, .pointer (some ⟨g, 0, none⟩)), (6, some 220, .pointer (some ⟨g, 0, none⟩))] (QM.cls HF9.out (fun _ _ => trivial)) ?_
     simp only [zq]
     refine wpAnyU_ready (rs := [3, 9]) (by kernel_rfl) (by simp) ?_
     refine uD rfl (fun wA3 hA3 K hK => ?_) (uD rfl (fun wA9 hA9 K hK => ?_) AllReadyU.nil)
     ·
      go_simp
      refine (p0 _ wA3 HF9.out hA3).mono ?_
      rintro e wn0 ⟨rfl, hn⟩
      refine hK.out _ _ (QM w g B v t27_1 M9) (QM.cls HF9.out (fun _ _ => trivial)) hn ?_
      clear hK K
      try simp only [zq]
      refine wpAnyU_ready (rs := [7, 9]) (by kernel_rfl) (by simp) ?_
      refine uD rfl (fun wA7 hA7 K hK => ?_) (uD rfl (fun wA9 hA9 K hK => ?_) AllReadyU.nil)
      ·
       go_simp
       refine (p1 _ wA7 HF9.out hA7).mono ?_
       rintro e wn1 ⟨rfl, hn⟩
       refine hK.out _ _ (QM w g B v t27_2 M9) (QM.cls HF9.out (fun _ _ => trivial)) hn ?_
       clear hK K
       try simp only [zq]
       refine uG 8 (some 222) (.agg #[z0, z1, (0:Int), (0:Int), (0:Int), (), ()]) (QM.cls HF9.out (fun _ _ => trivial)) ?_
       simp only [zq]
       refine uS 9 rfl (fun wA9 hA9 K hK => ?_)
       go_simp
       have hgq := hA9.1.lt
       have hgz := hA9.1.size
       have hgb := HB9.out _ hA9.2
       obtain ⟨gf, hgae⟩ : ∃ gf, gf = wA9.heap.size := ⟨_, rfl⟩
       have HNE9 : Hid (g < gf ∧ w.heap.size ≤ gf ∧ gb9 ≤ gf) := by show _ ∧ _ ∧ _; exact ⟨by omega, by omega, by omega⟩
       have HF1 : Hid (Firm (fun k => k = g) (fun x => M9 x ∧ HT x gf 76 [(0:Int), (0:Int), (0:Int), (0:Int), (0:Int), (), ()])) := Firm.and HF9.out (Firm.ht (by have := HNE9.out.1; omega))
       have hbx : Below wA9.heap.size wA9 (wA9.alloc (.cells #[(0:Int), (0:Int), (0:Int), (0:Int), (0:Int), (), ()] 76)) := Bn
       have hnew : HT (wA9.alloc (.cells #[(0:Int), (0:Int), (0:Int), (0:Int), (0:Int), (), ()] 76)) gf 76 [(0:Int), (0:Int), (0:Int), (0:Int), (0:Int), (), ()] := by rw [hgae]; exact HT.new (w := wA9)
       rw [← hgae]
       clear hgq hgz hgb hgae
       refine hK.out _ _ (QM w g B v t27_2 (fun x => M9 x ∧ HT x gf 76 [(0:Int), (0:Int), (0:Int), (0:Int), (0:Int), (), ()])) (QM.cls HF1.out (fun _ _ => trivial)) ⟨hA9.1.below hbx, Firm.below HF9.out hA9.2 hbx, hnew⟩ ?_
       clear hK K
       try simp only [zq]
       refine uZ rfl (fun w1 hb1 K hK => ?_)
       refine step_store_mid rfl 76 (.tmp 14) (.tmp 222) rfl gf 0 [z0, z1, (0:Int), (0:Int), (0:Int), (), ()] rfl rfl (fun j hj => ⟨hb1.2.2.isSome (by simpa using hj), hb1.2.2.frozen _⟩) (by rw [sea_sz]; rfl) (by simp [Value.oneCell']) ?_
       have hput := hb1.2.2.puts (o := 0) (vs := [z0, z1, (0:Int), (0:Int), (0:Int), (), ()]) (by simp)
       rw [splice_all (by simp)] at hput
       have hk9 := setCells_kept gf [z0, z1, (0:Int), (0:Int), (0:Int), (), ()] 0 w1
       have hq9 := hb1.1.keptS hk9 (fun k (e : k = gf) => by have := HNE9.out; omega)
       have hm9 := HFM9.out _ _ hb1.2.1 (hk9.weaken (fun k (e : k = gf) => by have := HNE9.out; show _ ∨ _; omega))
       have HQ9 := Lh (⟨hq9, hm9, hput⟩ : QM w g B v t27_2 (fun x => M9 x ∧ HT x gf 76 [z0, z1, (0:Int), (0:Int), (0:Int), (), ()]) _)
       obtain ⟨w9, hw9⟩ : ∃ w9, w9 = w1.setCells gf 0 [z0, z1, (0:Int), (0:Int), (0:Int), (), ()] := ⟨_, rfl⟩
       rw [← hw9] at HQ9 ⊢
       clear hput hk9 hq9 hm9 hb1 hw9
       refine hK.out _ _ ?_
       clear hK K
       try simp only [Act.put]
       go_wp2_with fail
       go_meet
       exact ⟨gf, rfl, HQ9.out, HNE9.out⟩
      ·
       go_simp
       have hgq := hA9.1.lt
       have hgz := hA9.1.size
       have hgb := HB9.out _ hA9.2
       obtain ⟨gf, hgae⟩ : ∃ gf, gf = wA9.heap.size := ⟨_, rfl⟩
       have HNE9 : Hid (g < gf ∧ w.heap.size ≤ gf ∧ gb9 ≤ gf) := by show _ ∧ _ ∧ _; exact ⟨by omega, by omega, by omega⟩
       have HF1 : Hid (Firm (fun k => k = g) (fun x => M9 x ∧ HT x gf 76 [(0:Int), (0:Int), (0:Int), (0:Int), (0:Int), (), ()])) := Firm.and HF9.out (Firm.ht (by have := HNE9.out.1; omega))
       have hbx : Below wA9.heap.size wA9 (wA9.alloc (.cells #[(0:Int), (0:Int), (0:Int), (0:Int), (0:Int), (), ()] 76)) := Bn
       have hnew : HT (wA9.alloc (.cells #[(0:Int), (0:Int), (0:Int), (0:Int), (0:Int), (), ()] 76)) gf 76 [(0:Int), (0:Int), (0:Int), (0:Int), (0:Int), (), ()] := by rw [hgae]; exact HT.new (w := wA9)
       rw [← hgae]
       clear hgq hgz hgb hgae
       refine hK.out _ _ (QM w g B v t27_1 (fun x => M9 x ∧ HT x gf 76 [(0:Int), (0:Int), (0:Int), (0:Int), (0:Int), (), ()])) (QM.cls HF1.out (fun _ _ => trivial)) ⟨hA9.1.below hbx, Firm.below HF9.out hA9.2 hbx, hnew⟩ ?_
       clear hK K
       try simp only [zq]
       refine uS 7 rfl (fun wA7 hA7 K hK => ?_)
       go_simp
       refine (p1 _ wA7 HF1.out hA7).mono ?_
       rintro e wn1 ⟨rfl, hn⟩
       refine hK.out _ _ (QM w g B v t27_2 (fun x => M9 x ∧ HT x gf 76 [(0:Int), (0:Int), (0:Int), (0:Int), (0:Int), (), ()])) (QM.cls HF1.out (fun _ _ => trivial)) hn ?_
       clear hK K
       try simp only [zq]
       refine uG 8 (some 222) (.agg #[z0, z1, (0:Int), (0:Int), (0:Int), (), ()]) (QM.cls HF1.out (fun _ _ => trivial)) ?_
       simp only [zq]
       refine uZ rfl (fun w1 hb1 K hK => ?_)
       refine step_store_mid rfl 76 (.tmp 14) (.tmp 222) rfl gf 0 [z0, z1, (0:Int), (0:Int), (0:Int), (), ()] rfl rfl (fun j hj => ⟨hb1.2.2.isSome (by simpa using hj), hb1.2.2.frozen _⟩) (by rw [sea_sz]; rfl) (by simp [Value.oneCell']) ?_
       have hput := hb1.2.2.puts (o := 0) (vs := [z0, z1, (0:Int), (0:Int), (0:Int), (), ()]) (by simp)
       rw [splice_all (by simp)] at hput
       have hk9 := setCells_kept gf [z0, z1, (0:Int), (0:Int), (0:Int), (), ()] 0 w1
       have hq9 := hb1.1.keptS hk9 (fun k (e : k = gf) => by have := HNE9.out; omega)
       have hm9 := HFM9.out _ _ hb1.2.1 (hk9.weaken (fun k (e : k = gf) => by have := HNE9.out; show _ ∨ _; omega))
       have HQ9 := Lh (⟨hq9, hm9, hput⟩ : QM w g B v t27_2 (fun x => M9 x ∧ HT x gf 76 [z0, z1, (0:Int), (0:Int), (0:Int), (), ()]) _)
       obtain ⟨w9, hw9⟩ : ∃ w9, w9 = w1.setCells gf 0 [z0, z1, (0:Int), (0:Int), (0:Int), (), ()] := ⟨_, rfl⟩
       rw [← hw9] at HQ9 ⊢
       clear hput hk9 hq9 hm9 hb1 hw9
       refine hK.out _ _ ?_
       clear hK K
       try simp only [Act.put]
       go_wp2_with fail
       go_meet
       exact ⟨gf, rfl, HQ9.out, HNE9.out⟩
     ·
      go_simp
      have hgq := hA9.1.lt
      have hgz := hA9.1.size
      have hgb := HB9.out _ hA9.2
      obtain ⟨gf, hgae⟩ : ∃ gf, gf = wA9.heap.size := ⟨_, rfl⟩
      have HNE9 : Hid (g < gf ∧ w.heap.size ≤ gf ∧ gb9 ≤ gf) := by show _ ∧ _ ∧ _; exact ⟨by omega, by omega, by omega⟩
      have HF1 : Hid (Firm (fun k => k = g) (fun x => M9 x ∧ HT x gf 76 [(0:Int), (0:Int), (0:Int), (0:Int), (0:Int), (), ()])) := Firm.and HF9.out (Firm.ht (by have := HNE9.out.1; omega))
      have hbx : Below wA9.heap.size wA9 (wA9.alloc (.cells #[(0:Int), (0:Int), (0:Int), (0:Int), (0:Int), (), ()] 76)) := Bn
      have hnew : HT (wA9.alloc (.cells #[(0:Int), (0:Int), (0:Int), (0:Int), (0:Int), (), ()] 76)) gf 76 [(0:Int), (0:Int), (0:Int), (0:Int), (0:Int), (), ()] := by rw [hgae]; exact HT.new (w := wA9)
      rw [← hgae]
      clear hgq hgz hgb hgae
      refine hK.out _ _ (QM w g B v t27_0 (fun x => M9 x ∧ HT x gf 76 [(0:Int), (0:Int), (0:Int), (0:Int), (0:Int), (), ()])) (QM.cls HF1.out (fun _ _ => trivial)) ⟨hA9.1.below hbx, Firm.below HF9.out hA9.2 hbx, hnew⟩ ?_
      clear hK K
      try simp only [zq]
      refine uS 3 rfl (fun wA3 hA3 K hK => ?_)
      go_simp
      refine (p0 _ wA3 HF1.out hA3).mono ?_
      rintro e wn0 ⟨rfl, hn⟩
      refine hK.out _ _ (QM w g B v t27_1 (fun x => M9 x ∧ HT x gf 76 [(0:Int), (0:Int), (0:Int), (0:Int), (0:Int), (), ()])) (QM.cls HF1.out (fun _ _ => trivial)) hn ?_
      clear hK K
      try simp only [zq]
      refine uS 7 rfl (fun wA7 hA7 K hK => ?_)
      go_simp
      refine (p1 _ wA7 HF1.out hA7).mono ?_
      rintro e wn1 ⟨rfl, hn⟩
      refine hK.out _ _ (QM w g B v t27_2 (fun x => M9 x ∧ HT x gf 76 [(0:Int), (0:Int), (0:Int), (0:Int), (0:Int), (), ()])) (QM.cls HF1.out (fun _ _ => trivial)) hn ?_
      clear hK K
      try simp only [zq]
      refine uG 8 (some 222) (.agg #[z0, z1, (0:Int), (0:Int), (0:Int), (), ()]) (QM.cls HF1.out (fun _ _ => trivial)) ?_
      simp only [zq]
      refine uZ rfl (fun w1 hb1 K hK => ?_)
      refine step_store_mid rfl 76 (.tmp 14) (.tmp 222) rfl gf 0 [z0, z1, (0:Int), (0:Int), (0:Int), (), ()] rfl rfl (fun j hj => ⟨hb1.2.2.isSome (by simpa using hj), hb1.2.2.frozen _⟩) (by rw [sea_sz]; rfl) (by simp [Value.oneCell']) ?_
      have hput := hb1.2.2.puts (o := 0) (vs := [z0, z1, (0:Int), (0:Int), (0:Int), (), ()]) (by simp)
      rw [splice_all (by simp)] at hput
      have hk9 := setCells_kept gf [z0, z1, (0:Int), (0:Int), (0:Int), (), ()] 0 w1
      have hq9 := hb1.1.keptS hk9 (fun k (e : k = gf) => by have := HNE9.out; omega)
      have hm9 := HFM9.out _ _ hb1.2.1 (hk9.weaken (fun k (e : k = gf) => by have := HNE9.out; show _ ∨ _; omega))
      have HQ9 := Lh (⟨hq9, hm9, hput⟩ : QM w g B v t27_2 (fun x => M9 x ∧ HT x gf 76 [z0, z1, (0:Int), (0:Int), (0:Int), (), ()]) _)
      obtain ⟨w9, hw9⟩ : ∃ w9, w9 = w1.setCells gf 0 [z0, z1, (0:Int), (0:Int), (0:Int), (), ()] := ⟨_, rfl⟩
      rw [← hw9] at HQ9 ⊢
      clear hput hk9 hq9 hm9 hb1 hw9
      refine hK.out _ _ ?_
      clear hK K
      try simp only [Act.put]
      go_wp2_with fail
      go_meet
      exact ⟨gf, rfl, HQ9.out, HNE9.out⟩
    case rest =>
     obtain ⟨gf, rfl, hq, hne⟩ := hcut
     have HNE4 := Lh (⟨hne.1, hne.2.1, hne.2.2, hq.2.2.lt⟩ : _ ∧ _ ∧ _ ∧ _)
     have hff : Firm (fun k => k = g) (fun x => M9 x ∧ HT x gf 76 [z0, z1, (0:Int), (0:Int), (0:Int), (), ()]) := Firm.and HF9.out (Firm.ht (by have := HNE4.out; omega))
     have sh := QM_rep hff hq HLEN.out
     clear hq hne hff
     go_wp2_with fail
     refine sh.mono ?_
     clear sh
     rintro e w2 ⟨val, X, sf, rfl, hv, hqr, hq⟩
     have HQR := Lh hqr
     obtain ⟨q1, m1, d1, q2, m2, d2, hval, ho1, ho2⟩ := hv
     obtain ⟨rv, hrv⟩ : ∃ rv : List Value, rv = [.int .i64 X.c, .int .i64 X.n, .int .i64 X.a, .slice q1 m1 d1, .slice q2 m2 d2] := ⟨_, rfl⟩
     obtain rfl : val = .agg rv.toArray := by rw [hval, hrv]
     have hrl : rv.length = 5 := by rw [hrv]; rfl
     have HTH : Hid (w2.there gf 2 rv.toArray.size) := fun j hj => ⟨hq.2.2.isSome (by simp [hrl] at hj ⊢; omega), hq.2.2.frozen _⟩
     have HSR : Hid ((Tryz.prog.info? 63).map (·.size) = some rv.toArray.size) := by show _ = _; rw [repSz]; simp [hrl]
     have HON2 : Hid (rv.toArray.all (·.oneCell') = true) := by show _ = true; rw [hrv]; simp [Value.oneCell']
     have hput := hq.2.2.puts (o := 2) (vs := rv) (by rw [hrl]; simp)
     have hput' : HT (w2.setCells gf 2 rv) gf 76 [z0, z1, X.c, X.n, X.a, .slice q1 m1 d1, .slice q2 m2 d2] := by
      have e : splice [.int .i64 z0, .int .i64 z1, .int .i64 0, .int .i64 0, .int .i64 0, .slice none 0 0, .slice none 0 0] 2 rv = [.int .i64 z0, .int .i64 z1, .int .i64 X.c, .int .i64 X.n, .int .i64 X.a, .slice q1 m1 d1, .slice q2 m2 d2] := by rw [hrv]; rfl
      rw [e] at hput
      exact hput
     have hkS := setCells_kept gf rv 2 w2
     have hm6 := HFM9.out _ _ hq.2.1 (hkS.weaken (fun k (e : k = gf) => .inr (by have := HNE4.out; omega)))
     have hq6 : QPost 122 w g B v sf (w2.setCells gf 2 rv) := hq.1.keptS hkS (fun k (e : k = gf) => by have := HNE4.out; omega)
     have ho1' := OwnR.keptS ho1 hkS (fun k hk (e : k = gf) => by have := OwnR.ge ho1 k hk; have := HNE4.out; omega)
     have ho2' := OwnR.keptS ho2 hkS (fun k hk (e : k = gf) => by have := OwnR.ge ho2 k hk; have := HNE4.out; omega)
     have hbz : gb27 ≤ wc.heap.size := by have := HNE4.out; have := HNEF.out; omega
     obtain ⟨w6, hw6⟩ : ∃ w6, w6 = w2.setCells gf 2 rv := ⟨_, rfl⟩
     rw [← hw6] at hput' hm6 hq6 ho1' ho2'
     have hx6 := HX9.out _ hm6
     have hcb : w6.cell? ⟨ga, 14, none⟩ = some (.slice a0 n0 c0) := hx6.2.1.cell (j := 14) rfl
     have HW6 := Lh hw6
     have HGF : Hid (w6.heap[gf]? = some (.cells #[z0, z1, X.c, X.n, X.a, .slice q1 m1 d1, .slice q2 m2 d2] 76 (0, 0))) := hput'
     have HSZ : Hid ((Tryz.prog.info? 76).map (·.size) = some (#[z0, z1, X.c, X.n, X.a, .slice q1 m1 d1, .slice q2 m2 d2] : Array Value).size) := by show _ = _; rw [sea_sz]; rfl
     have hbx : Below w6.heap.size w6 (w6.alloc (.cells #[z0, z1, X.c, X.n, X.a, .slice q1 m1 d1, .slice q2 m2 d2] 76)) := Bn
     have hoS : SeOwn (w6.alloc (.cells #[z0, z1, X.c, X.n, X.a, .slice q1 m1 d1, .slice q2 m2 d2] 76)) gb27 (.slice a0 n0 c0) LV LQ := hx6.2.2.kept (Kept.of_below hbx) (fun _ _ _ h => h)
     have hoA := hoS.1
     have hxA : SVown (w6.alloc (.cells #[z0, z1, X.c, X.n, X.a, .slice q1 m1 d1, .slice q2 m2 d2] 76)) gb27 (⟨z0, z1, X.c, X.n, X.a, q1, m1, d1, q2, m2, d2⟩ : SV) (⟨z0, z1, X⟩ : SeT) := ⟨rfl, rfl, rfl, rfl, rfl, OwnR.base (OwnR.alloc ho1' _) hbz, OwnR.base (OwnR.alloc ho2' _) hbz⟩
     have hxn : (∀ k, (⟨z0, z1, X.c, X.n, X.a, q1, m1, d1, q2, m2, d2⟩ : SV).vd.ownBlock = some k → (Value.slice a0 n0 c0).ownBlock ≠ some k) ∧ ∀ k, (⟨z0, z1, X.c, X.n, X.a, q1, m1, d1, q2, m2, d2⟩ : SV).vf.ownBlock = some k → (Value.slice a0 n0 c0).ownBlock ≠ some k :=
      ⟨fun k e e2 => by have h1 := OwnR.ge ho1 k e; have h2 := HLT9.out.1 k e2; have := HNE4.out; omega, fun k e e2 => by have h1 := OwnR.ge ho2 k e; have h2 := HLT9.out.1 k e2; have := HNE4.out; omega⟩
     have hone : Rs SV.vs 7 (w6.alloc (.cells #[z0, z1, X.c, X.n, X.a, .slice q1 m1 d1, .slice q2 m2 d2] 76)) (.slice (some ⟨w6.heap.size, 0, none⟩) 1 1) [(⟨z0, z1, X.c, X.n, X.a, q1, m1, d1, q2, m2, d2⟩ : SV)] := Rs.one SV.len w6 (⟨z0, z1, X.c, X.n, X.a, q1, m1, d1, q2, m2, d2⟩ : SV) 76
     have hbase : gb27 ≤ (w6.alloc (.cells #[z0, z1, X.c, X.n, X.a, .slice q1 m1 d1, .slice q2 m2 d2] 76)).heap.size := by have := HB27.out _ hx6.1; have := hbx.size; omega
     have HQA : Hid (QPost 122 w g B v sf (w6.alloc (.cells #[z0, z1, X.c, X.n, X.a, .slice q1 m1 d1, .slice q2 m2 d2] 76))) := hq6.below hbx
     have HMA : Hid (M27 (w6.alloc (.cells #[z0, z1, X.c, X.n, X.a, .slice q1 m1 d1, .slice q2 m2 d2] 76))) := Firm.below HFM27.out hx6.1 hbx
     have HXA : Hid (HT (w6.alloc (.cells #[z0, z1, X.c, X.n, X.a, .slice q1 m1 d1, .slice q2 m2 d2] 76)) ga 41 [y0, y1, y2, .slice ra1 rn1 rc1, .slice ra2 rn2 rc2, .slice ra3 rn3 rc3, yb, .slice ba1 bn1 bc1, .slice ba2 bn2 bc2, yl, .slice a23 n23 c23, .slice a24 n24 c24, .slice a25 n25 c25, .slice a26 n26 c26, .slice a0 n0 c0]) := hx6.2.1.below hbx
     have HOA := Lh (⟨hoS, hxA, hxn⟩ : _ ∧ _ ∧ _)
     clear hq hput hput' hkS hm6 hx6 hq6 hbx hw6 ho1 ho2 ho1' ho2' hoS hxA hxn hval hrv hrl hqr hbz
     go_wp2_with (first
      | (refine wpList_store_mid rfl 63 (.tmp 225) (.tmp 224) rfl gf 2 rv.toArray rfl rfl HTH.out HSR.out HON2.out ?_; change wpList _ _ _ _ _ (w2.setCells gf 2 rv); rw [← HW6.out])
      | (refine wpList_load_row rfl 76 (.tmp 14) rfl gf rfl 76 #[z0, z1, X.c, X.n, X.a, .slice q1 m1 d1, .slice q2 m2 d2] (0, 0) _ HGF.out Tryz.underlying76 rfl HSZ.out ?_)
      | (at_builtin; refine wpList_append_rows (v := .slice a0 n0 c0) rfl (.tmp 227) (.tmp 229) 39 rfl (L := LV) (M := [(⟨z0, z1, X.c, X.n, X.a, q1, m1, d1, q2, m2, d2⟩ : SV)]) (base := gb27) elem_sea rfl rfl hoA hone SV.one HLE.out (by decide) hbase ?_; intro a7 n7 c7 w7 Hn7 ho7 hg7 hat7 hb7; have hge : ∀ k, (Value.slice a0 n0 c0).ownBlock = some k → gb27 ≤ k := OwnR.ge hoA; have hk7 := Kept.of_grown hg7; have HX7 : Hid (HT w7 ga 41 [.int .i64 y0, .int .i64 y1, .int .i64 y2, .slice ra1 rn1 rc1, .slice ra2 rn2 rc2, .slice ra3 rn3 rc3, .int .i64 yb, .slice ba1 bn1 bc1, .slice ba2 bn2 bc2, .int .i64 yl, .slice a23 n23 c23, .slice a24 n24 c24, .slice a25 n25 c25, .slice a26 n26 c26, .slice a0 n0 c0]) := HXA.out.keptH hk7 (fun e => by have := hge _ e; have := HNE27.out; omega); have HQ7 : Hid (QPost 122 w g B v sf w7 ∧ M27 w7) := ⟨HQA.out.keptS hk7 (fun k e => by have := hge k e; have := HNE27.out; omega), HFM27.out _ _ HMA.out (hk7.weaken (fun k e => by have := hge k e; exact .inr (.inr this)))⟩; have HO7 : Hid (SeOwn w7 gb27 (.slice a7 n7 c7) (LV ++ [(⟨z0, z1, X.c, X.n, X.a, q1, m1, d1, q2, m2, d2⟩ : SV)]) (LQ ++ [(⟨z0, z1, X⟩ : SeT)])) := SeOwn.snoc HOA.out.1 HOA.out.2.1 HOA.out.2.2 ho7 hg7 hat7.out; have hcx := HX7.out.cell (j := 14) rfl; have hfx := HX7.out.frozen 14; clear hk7 hg7 hat7 hb7 Hn7 ho7 hge)
      | fail)
     have hkT : Kept (fun k => k = ga) w7 (w7.setCell ⟨ga, 14, none⟩ (.slice a7 n7 c7)) := (Kept.refl _ w7).setCell _ _ rfl
     have hfin : QM w g B v sf (fun x => M27 x ∧ HT x ga 41 [.int .i64 y0, .int .i64 y1, .int .i64 y2, .slice ra1 rn1 rc1, .slice ra2 rn2 rc2, .slice ra3 rn3 rc3, .int .i64 yb, .slice ba1 bn1 bc1, .slice ba2 bn2 bc2, .int .i64 yl, .slice a23 n23 c23, .slice a24 n24 c24, .slice a25 n25 c25, .slice a26 n26 c26, .slice a7 n7 c7] ∧ SeOwn x gb27 (.slice a7 n7 c7) (LV ++ [(⟨z0, z1, X.c, X.n, X.a, q1, m1, d1, q2, m2, d2⟩ : SV)]) (LQ ++ [(⟨z0, z1, X⟩ : SeT)])) (w7.setCell ⟨ga, 14, none⟩ (.slice a7 n7 c7)) :=
      ⟨HQ7.out.1.keptS hkT (fun k (e : k = ga) => by have := HNE27.out; omega), HFM27.out _ _ HQ7.out.2 (hkT.weaken (fun k (e : k = ga) => .inr (.inl e))), HX7.out.put' 14 _ rfl, HO7.out.kept hkT (fun k h1 h2 (e : k = ga) => by have := HNE27.out; omega)⟩
     have hqn : QSs (k + 1) mt (LQ ++ [(⟨z0, z1, X⟩ : SeT)]) sf := ⟨LQ, t27_0, _, HQSS.out, ⟨X, by rw [HP.out]; exact HQR.out, by rw [HP.out]; rfl⟩, rfl⟩
     first
      | exact ⟨⟨k + 1, a7, n7, c7, _, _, sf, by omega, go_num_sub hltN, hqn, hfin⟩, by simp [intOf]; omega⟩
      | ((repeat apply Exists.intro); exact ⟨⟨k + 1, a7, n7, c7, _, _, sf, by omega, go_num_sub hltN, hqn, hfin⟩, rfl⟩)
   ·
    have hz1 : (b == 0) = false := by simpa using hz
    have HE := Lh (HQL.out (.inr hz))
    clear hz hq
    go_wp2_with fail
    exact RsP_sea.mk ⟨_, _, _, _, _, _, HE.out, HQB.out⟩
  ·
   obtain rfl : k = N := by omega
   have HE := Lh (HQL.out (.inl rfl))
   have hneg : ¬ (0 : Int) < (k : Int) - (k : Int) := by omega
   clear hq
   go_wp2_with fail
   exact RsP_sea.mk ⟨_, _, _, _, _, _, HE.out, HQB.out⟩
end Cam
