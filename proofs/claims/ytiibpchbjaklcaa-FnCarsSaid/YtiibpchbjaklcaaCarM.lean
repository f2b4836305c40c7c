/- The law on cars: what its parts say, and its end, from the equal height on. -/
import Derived.Test.YtiibpchbjaklcaaSrcT
import Derived.Test.YtiibpchbjaklcaaTrkN
import Derived.Test.YtiibpchbjaklcaaTrkH
import Derived.Test.YtiibpchbjaklcaaTrkM
import Derived.Deep.DeepCutAuto
namespace Go.Proofs.Ytiibpchbjaklcaa.CarL
set_option maxRecDepth 100000
open Go.RowKit Go.Proofs.Ytiibpchbjaklcaa.Plain Go.Proofs.Ytiibpchbjaklcaa.TrkP Go.Proofs.Ytiibpchbjaklcaa.WalkA Go.Proofs.Ytiibpchbjaklcaa.TrkA Go.Proofs.Ytiibpchbjaklcaa.TrkC Go.Proofs.Ytiibpchbjaklcaa.TrkD Go.Proofs.Ytiibpchbjaklcaa.TrkE Go.Proofs.Ytiibpchbjaklcaa.TrkF Go.Proofs.Ytiibpchbjaklcaa.TrkG Go.Proofs.Ytiibpchbjaklcaa.TrkH Go.Proofs.Ytiibpchbjaklcaa.TrkJ Go.Proofs.Ytiibpchbjaklcaa.TrkK Go.Proofs.Ytiibpchbjaklcaa.TrkL Go.Proofs.Ytiibpchbjaklcaa.TrkM Go.Proofs.Ytiibpchbjaklcaa.TrkN Go.Proofs.Ytiibpchbjaklcaa.SrcT
open Go.Proofs.Ytiibpchbjaklcaa.SrcA (Bys Some64 r8Long_any r8At_any r8Wide_any)

/-- What the law holds in memory: a track in a box, its sections, the bytes of an input. -/
structure Hold (W : World) (b g cp : Nat) (l : List (Int × Int)) (lf lu : Int) (A : Option Addr) (n : Nat) : Prop where
  c0 : W.cell? ⟨b, 0, none⟩ = some (.slice (some ⟨g, 0, none⟩) l.length cp)
  c1 : W.cell? ⟨b, 1, none⟩ = some (.int .i64 lf)
  c2 : W.cell? ⟨b, 2, none⟩ = some (.int .i64 lu)
  secs : Secs W W.heap.size (some ⟨g, 0, none⟩) l.length l
  bys : Bys W W.heap.size A n
  lt : b < W.heap.size
theorem Hold.below {W W' : World} {b g cp : Nat} {l : List (Int × Int)} {lf lu : Int} {A : Option Addr} {n : Nat} (h : Hold W b g cp l lf lu A n) (hb : Below W.heap.size W W') : Hold W' b g cp l lf lu A n :=
  ⟨(hb.cell (p := ⟨b, 0, none⟩) h.lt).trans h.c0, (hb.cell (p := ⟨b, 1, none⟩) h.lt).trans h.c1, (hb.cell (p := ⟨b, 2, none⟩) h.lt).trans h.c2, h.secs.below hb hb.size, h.bys.below hb hb.size, Nat.lt_of_lt_of_le h.lt hb.size⟩
theorem Hold.new {w : World} {g cp : Nat} {l : List (Int × Int)} {lf lu : Int} {A : Option Addr} {n : Nat} (hs : Secs w w.heap.size (some ⟨g, 0, none⟩) l.length l) (hb : Bys w w.heap.size A n) :
    Hold (w.alloc (.cells #[.slice (some ⟨g, 0, none⟩) l.length cp, .int .i64 lf, .int .i64 lu] 26)) w.heap.size g cp l lf lu A n := by
  obtain ⟨q0, q1, q2, q3, q4⟩ := boxed w 26 (.slice (some ⟨g, 0, none⟩) l.length cp) (.int .i64 lf) (.int .i64 lu)
  exact ⟨q0, q1, q2, hs.below q3 q3.size, hb.below q3 q3.size, by omega⟩
theorem onB_yes {l : List (Int × Int)} {lf lu x : Int} (hv : Valid l lf lu) (hx : 0 ≤ x ∧ x ≤ lenAll l) : onB l lf lu x = true ∧ onI l lf lu x = 0 := by
  have a := trackB_iff.2 hv
  have b := inB_iff.2 hx
  exact ⟨by simp [onB, a, b], onI_in a b⟩
theorem r8Abs_any (x : Int) (hx : -10000000 ≤ x ∧ x ≤ 10000000) (w : World) : Calls Try.prog 13 #[.int .i64 x] w fun e w' => e = .returned (.int .i64 (absI x)) ∧ w = w' := by
  go_enter Try.func13, Try.ntmps13
  go_wp2
  all_goals
    go_ret
    exact ⟨SrcA.ret64 (by unfold absI; split <;> omega), rfl⟩
theorem low_is {l : List (Int × Int)} {lf lu : Int} (h : DrawnT l lf lu) : lowL l lf lu = lf ∧ highL l lf lu = lu ∧ 1000 ≤ lf ∧ lf ≤ lu ∧ lf + lu = lenAll l := by
  have a := h.len
  obtain ⟨hh, h1, h2, h3⟩ := h.from_
  have h4 := h.until_
  unfold lowL highL maxI minI
  refine ⟨?_, ?_, by omega, by omega, by omega⟩
  · rw [if_neg (by omega)]; omega
  · rw [if_neg (by omega)]; omega
theorem least_is {l : List (Int × Int)} {lf lu : Int} (h : DrawnT l lf lu) : leastV l lf lu = lenAll l - 2 * (lf - 1) := by
  obtain ⟨a, b, c, d, _⟩ := low_is h
  rw [leastV_c (by omega) (by omega), a]
theorem eq_facts {l : List (Int × Int)} (hg : GoodL l) : 0 ≤ eqR l ∧ eqR l ≤ lenAll l ∧ hAt l (lenAll l - eqR l) - hAt l (eqR l) ≤ 0 ∧ (0 < eqR l → 0 < hAt l (lenAll l - (eqR l - 1)) - hAt l (eqR l - 1)) := by
  have t := eqR_is hg
  have hn : eqR l ≤ lenAll l := by
    rcases Int.lt_or_le (lenAll l) (eqR l) with h | h
    · exfalso
      have b := (lenAll_bds hg).1
      have e : eqR l - 1 = lenAll l := by have := t.2.1; omega
      have f := t.2.2.1 (by omega)
      rw [e, eqP_end hg] at f
      cases f
    · exact h
  refine ⟨t.1, hn, of_decide_eq_true (t.2.2.2 hn), fun h => ?_⟩
  have f := t.2.2.1 h
  have := of_decide_eq_false f
  omega

/-- The code behind m statements. -/
def dropSeq : Nat → Code → Code
  | 0, c => c
  | n + 1, .seq _ b => dropSeq n b
  | _ + 1, c => c
noncomputable def B : Code := Try.f3.body.getD .skip
/-- The code from the equal height on ends as the law says. -/
def RestC18 (A A' : Option Addr) (n n' c c' : Nat) (w : World) (b g cp : Nat) (l : List (Int × Int)) (lf lu N : Int) : Prop := ∀ (u2 u3 u4 u7 u8 u9 u10 u11 u12 u13 u14 u15 u16 u17 u18 u19 u20 u21 u22 u23 u24 u25 u26 u27 u28 u29 u30 u31 u32 u33 u34 u35 u36 u37 u38 u39 u40 u41 u42 u43 u44 u45 u46 u47 u48 u49 u50 u51 u52 u53 u54 u55 u56 u57 u58 u59 u60 u61 u62 u63 u64 u65 u66 u67 u68 u69 u70 u71 u72 u73 u74 u75 u76 u77 u78 u79 u80 u81 u82 u83 u84 u85 u86 u87 u88 u89 u90 u91 u92 u93 u94 u95 u96 u97 u98 u99 u100 u101 u102 u103 u104 u105 u106 u107 u108 u109 u110 u111 u112 u113 u114 u115 u116 u117 u118 u119 u120 u121 u122 u123 u124 u125 u126 u127 u128 u129 u130 u131 u132 u133 u134 u135 u136 u137 u138 u139 u140 u141 u142 u143 u144 u145 u146 u147 u148 u149 u150 u151 u152 u153 u154 u155 u156 u157 u158 u159 u160 u161 u162 u163 u164 u165 u166 u167 u168 u169 u170 u171 u172 u173 u174 u175 u176 u177 u178 u179 u180 u181 u182 u183 u184 u185 u186 u187 u188 u189 u190 u191 u192 u193 u194 u195 u196 u197 u198 u199 u200 u201 u202 u203 u204 u205 u206 u207 u208 u209 u210 u211 u212 u213 u214 u215 u216 u217 u218 u219 u220 u221 u222 u223 u224 u225 u226 u227 u228 u229 u230 u231 u232 u233 u234 u235 u236 u237 u238 u239 u240 u241 u242 u243 u244 u245 u246 u247 u248 u249 u250 u251 u252 u253 u254 u255 u256 u257 u258 u259 u260 u261 u262 u263 u264 u265 u266 u267 u268 u269 u270 u271 u272 u273 u274 u275 u276 u277 u278 u279 u280 u281 u282 u283 u284 u285 u286 u287 u288 u289 u290 u291 u292 u293 u294 u295 u296 u297 u298 u299 u300 u301 u302 u303 : Value) (W : World), Hid (Hold W b g cp l lf lu A' n') → Hid (Below w.heap.size w W) →
  Code.wp Try.prog (dropSeq 18 B) (bodyPost Try.prog Try.f3 fun e w' => e = .returned (.bool true) ∧ Below w.heap.size w w') ⟨#[.slice A n c, .slice A' n' c', u2, u3, u4, .pointer (some ⟨b, 0, none⟩), .int .i64 N, u7, u8, u9, u10, u11, u12, u13, u14, u15, u16, u17, u18, u19, u20, u21, u22, u23, u24, u25, u26, u27, u28, u29, u30, u31, u32, u33, u34, u35, u36, u37, u38, u39, u40, u41, u42, u43, u44, u45, u46, u47, u48, u49, u50, u51, u52, u53, u54, u55, u56, u57, u58, u59, u60, u61, u62, u63, u64, u65, u66, u67, u68, u69, u70, u71, u72, u73, u74, u75, u76, u77, u78, u79, u80, u81, u82, u83, u84, u85, u86, u87, u88, u89, u90, u91, u92, u93, u94, u95, u96, u97, u98, u99, u100, u101, u102, u103, u104, u105, u106, u107, u108, u109, u110, u111, u112, u113, u114, u115, u116, u117, u118, u119, u120, u121, u122, u123, u124, u125, u126, u127, u128, u129, u130, u131, u132, u133, u134, u135, u136, u137, u138, u139, u140, u141, u142, u143, u144, u145, u146, u147, u148, u149, u150, u151, u152, u153, u154, u155, u156, u157, u158, u159, u160, u161, u162, u163, u164, u165, u166, u167, u168, u169, u170, u171, u172, u173, u174, u175, u176, u177, u178, u179, u180, u181, u182, u183, u184, u185, u186, u187, u188, u189, u190, u191, u192, u193, u194, u195, u196, u197, u198, u199, u200, u201, u202, u203, u204, u205, u206, u207, u208, u209, u210, u211, u212, u213, u214, u215, u216, u217, u218, u219, u220, u221, u222, u223, u224, u225, u226, u227, u228, u229, u230, u231, u232, u233, u234, u235, u236, u237, u238, u239, u240, u241, u242, u243, u244, u245, u246, u247, u248, u249, u250, u251, u252, u253, u254, u255, u256, u257, u258, u259, u260, u261, u262, u263, u264, u265, u266, u267, u268, u269, u270, u271, u272, u273, u274, u275, u276, u277, u278, u279, u280, u281, u282, u283, u284, u285, u286, u287, u288, u289, u290, u291, u292, u293, u294, u295, u296, u297, u298, u299, u300, u301, u302, u303], []⟩ W
/-- The code from the loop's places on ends as the law says. -/
def RestC13 (A A' : Option Addr) (n n' c c' : Nat) (w : World) (b g cp : Nat) (l : List (Int × Int)) (lf lu N x y ap : Int) : Prop := ∀ (u2 u3 u4 u7 u10 u12 u13 u14 u15 u16 u17 u18 u19 u20 u21 u22 u23 u24 u25 u26 u27 u28 u29 u30 u31 u32 u33 u34 u35 u36 u37 u38 u39 u40 u41 u42 u43 u44 u45 u46 u47 u48 u49 u50 u51 u52 u53 u54 u55 u56 u57 u58 u59 u60 u61 u62 u63 u64 u65 u66 u67 u68 u69 u70 u71 u72 u73 u74 u75 u76 u77 u78 u79 u80 u81 u82 u83 u84 u85 u86 u87 u88 u89 u90 u91 u92 u93 u94 u95 u96 u97 u98 u99 u100 u101 u102 u103 u104 u105 u106 u107 u108 u109 u110 u111 u112 u113 u114 u115 u116 u117 u118 u119 u120 u121 u122 u123 u124 u125 u126 u127 u128 u129 u130 u131 u132 u133 u134 u135 u136 u137 u138 u139 u140 u141 u142 u143 u144 u145 u146 u147 u148 u149 u150 u151 u152 u153 u154 u155 u156 u157 u158 u159 u160 u161 u162 u163 u164 u165 u166 u167 u168 u169 u170 u171 u172 u173 u174 u175 u176 u177 u178 u179 u180 u181 u182 u183 u184 u185 u186 u187 u188 u189 u190 u191 u192 u193 u194 u195 u196 u197 u198 u199 u200 u201 u202 u203 u204 u205 u206 u207 u208 u209 u210 u211 u212 u213 u214 u215 u216 u217 u218 u219 u220 u221 u222 u223 u224 u225 u226 u227 u228 u229 u230 u231 u232 u233 u234 u235 u236 u237 u238 u239 u240 u241 u242 u243 u244 u245 u246 u247 u248 u249 u250 u251 u252 u253 u254 u255 u256 u257 u258 u259 u260 u261 u262 u263 u264 u265 u266 u267 u268 u269 u270 u271 u272 u273 u274 u275 u276 u277 u278 u279 u280 u281 u282 u283 u284 u285 u286 u287 u288 u289 u290 u291 u292 u293 u294 u295 u296 u297 u298 u299 u300 u301 u302 u303 : Value) (W : World), Hid (Hold W b g cp l lf lu A' n') → Hid (Below w.heap.size w W) →
  Code.wp Try.prog (dropSeq 13 B) (bodyPost Try.prog Try.f3 fun e w' => e = .returned (.bool true) ∧ Below w.heap.size w w') ⟨#[.slice A n c, .slice A' n' c', u2, u3, u4, .pointer (some ⟨b, 0, none⟩), .int .i64 N, u7, .int .i64 x, .int .i64 y, u10, .int .i64 ap, u12, u13, u14, u15, u16, u17, u18, u19, u20, u21, u22, u23, u24, u25, u26, u27, u28, u29, u30, u31, u32, u33, u34, u35, u36, u37, u38, u39, u40, u41, u42, u43, u44, u45, u46, u47, u48, u49, u50, u51, u52, u53, u54, u55, u56, u57, u58, u59, u60, u61, u62, u63, u64, u65, u66, u67, u68, u69, u70, u71, u72, u73, u74, u75, u76, u77, u78, u79, u80, u81, u82, u83, u84, u85, u86, u87, u88, u89, u90, u91, u92, u93, u94, u95, u96, u97, u98, u99, u100, u101, u102, u103, u104, u105, u106, u107, u108, u109, u110, u111, u112, u113, u114, u115, u116, u117, u118, u119, u120, u121, u122, u123, u124, u125, u126, u127, u128, u129, u130, u131, u132, u133, u134, u135, u136, u137, u138, u139, u140, u141, u142, u143, u144, u145, u146, u147, u148, u149, u150, u151, u152, u153, u154, u155, u156, u157, u158, u159, u160, u161, u162, u163, u164, u165, u166, u167, u168, u169, u170, u171, u172, u173, u174, u175, u176, u177, u178, u179, u180, u181, u182, u183, u184, u185, u186, u187, u188, u189, u190, u191, u192, u193, u194, u195, u196, u197, u198, u199, u200, u201, u202, u203, u204, u205, u206, u207, u208, u209, u210, u211, u212, u213, u214, u215, u216, u217, u218, u219, u220, u221, u222, u223, u224, u225, u226, u227, u228, u229, u230, u231, u232, u233, u234, u235, u236, u237, u238, u239, u240, u241, u242, u243, u244, u245, u246, u247, u248, u249, u250, u251, u252, u253, u254, u255, u256, u257, u258, u259, u260, u261, u262, u263, u264, u265, u266, u267, u268, u269, u270, u271, u272, u273, u274, u275, u276, u277, u278, u279, u280, u281, u282, u283, u284, u285, u286, u287, u288, u289, u290, u291, u292, u293, u294, u295, u296, u297, u298, u299, u300, u301, u302, u303], []⟩ W
set_option maxRecDepth 1000000 in
set_option maxHeartbeats 40000000 in
theorem part18 (A A' : Option Addr) (n n' c c' : Nat) (w : World) (b g cp : Nat) (l : List (Int × Int)) (lf lu N EQ P Q QC : Int) (hn2 : n' ≤ 1048576) (K21 : Hid (∀ W, Hold W b g cp l lf lu A' n' → Calls Try.prog 18 #[.agg #[.slice (some ⟨g, 0, none⟩) l.length cp, .int .i64 lf, .int .i64 lu]] W fun e w' => e = .returned (.tuple #[.int .i64 EQ, .int .i64 0]) ∧ Below W.heap.size W w')) (K22 : Hid (∀ W, Hold W b g cp l lf lu A' n' → Calls Try.prog 19 #[.agg #[.slice (some ⟨g, 0, none⟩) l.length cp, .int .i64 lf, .int .i64 lu], .int .i64 EQ] W fun e w' => e = .returned (.tuple #[.int .i64 P, .int .i64 0]) ∧ Below W.heap.size W w')) (K23 : Hid (∀ W, Hold W b g cp l lf lu A' n' → Calls Try.prog 19 #[.agg #[.slice (some ⟨g, 0, none⟩) l.length cp, .int .i64 lf, .int .i64 lu], .int .i64 (EQ - 1)] W fun e w' => e = .returned (.tuple #[.int .i64 Q, .int .i64 QC]) ∧ Below W.heap.size W w')) (KL : Hid (∀ a, 0 ≤ a → a ≤ 59999 → ∃ LV LC : Int, (∀ W, Hold W b g cp l lf lu A' n' → Calls Try.prog 20 #[.agg #[.slice (some ⟨g, 0, none⟩) l.length cp, .int .i64 lf, .int .i64 lu], .int .i64 a] W fun e w' => e = .returned (.tuple #[.int .i64 LV, .int .i64 LC]) ∧ Below W.heap.size W w') ∧ ((N < a ∧ LC = 3) ∨ (a ≤ N ∧ LC = 0 ∧ 0 ≤ LV ∧ LV ≤ 1095000 ∧ a ≤ N - 2 * LV ∧ N - 2 * (LV + 1) < a)))) (HQ : Hid (QC = 0 → 0 < Q)) (hPle : P ≤ 0) (hEQ1 : 0 ≤ EQ) (hEQ2 : EQ ≤ 1095000) : RestC18 A A' n n' c c' w b g cp l lf lu N := by
  unfold RestC18
  intro u2 u3 u4 u7 u8 u9 u10 u11 u12 u13 u14 u15 u16 u17 u18 u19 u20 u21 u22 u23 u24 u25 u26 u27 u28 u29 u30 u31 u32 u33 u34 u35 u36 u37 u38 u39 u40 u41 u42 u43 u44 u45 u46 u47 u48 u49 u50 u51 u52 u53 u54 u55 u56 u57 u58 u59 u60 u61 u62 u63 u64 u65 u66 u67 u68 u69 u70 u71 u72 u73 u74 u75 u76 u77 u78 u79 u80 u81 u82 u83 u84 u85 u86 u87 u88 u89 u90 u91 u92 u93 u94 u95 u96 u97 u98 u99 u100 u101 u102 u103 u104 u105 u106 u107 u108 u109 u110 u111 u112 u113 u114 u115 u116 u117 u118 u119 u120 u121 u122 u123 u124 u125 u126 u127 u128 u129 u130 u131 u132 u133 u134 u135 u136 u137 u138 u139 u140 u141 u142 u143 u144 u145 u146 u147 u148 u149 u150 u151 u152 u153 u154 u155 u156 u157 u158 u159 u160 u161 u162 u163 u164 u165 u166 u167 u168 u169 u170 u171 u172 u173 u174 u175 u176 u177 u178 u179 u180 u181 u182 u183 u184 u185 u186 u187 u188 u189 u190 u191 u192 u193 u194 u195 u196 u197 u198 u199 u200 u201 u202 u203 u204 u205 u206 u207 u208 u209 u210 u211 u212 u213 u214 u215 u216 u217 u218 u219 u220 u221 u222 u223 u224 u225 u226 u227 u228 u229 u230 u231 u232 u233 u234 u235 u236 u237 u238 u239 u240 u241 u242 u243 u244 u245 u246 u247 u248 u249 u250 u251 u252 u253 u254 u255 u256 u257 u258 u259 u260 u261 u262 u263 u264 u265 u266 u267 u268 u269 u270 u271 u272 u273 u274 u275 u276 u277 u278 u279 u280 u281 u282 u283 u284 u285 u286 u287 u288 u289 u290 u291 u292 u293 u294 u295 u296 u297 u298 u299 u300 u301 u302 u303 W HH50 HB50
  have HW4 := Lib.hid (fun W (h : Hold W b g cp l lf lu A' n') => r8Wide_any A' n' c' 5 60000 (by omega) (by omega) W h.bys hn2)
  obtain ⟨c0, c1, c2⟩ := (And.intro HH50.out.c0 (And.intro HH50.out.c1 HH50.out.c2))
  conv => arg 2; whnf
  go_wp2_with fail
  refine (K21.out _ HH50.out).mono ?_
  rintro e v51 ⟨rfl, hb⟩
  have HH51 := Lib.hid (HH50.out.below hb)
  have HB51 := Lib.hid (HB50.out.trans (hb.mono HB50.out.size))
  clear hb c0 c1 c2 HH50
  obtain ⟨c0, c1, c2⟩ := (And.intro HH51.out.c0 (And.intro HH51.out.c1 HH51.out.c2))
  go_wp2_with fail
  refine (K22.out _ HH51.out).mono ?_
  rintro e v52 ⟨rfl, hb⟩
  have HH52 := Lib.hid (HH51.out.below hb)
  have HB52 := Lib.hid (HB51.out.trans (hb.mono HB51.out.size))
  clear hb c0 c1 c2 HH51
  obtain ⟨c0, c1, c2⟩ := (And.intro HH52.out.c0 (And.intro HH52.out.c1 HH52.out.c2))
  go_wp2_with fail
  refine (K23.out _ HH52.out).mono ?_
  rintro e v53 ⟨rfl, hb⟩
  have HH53 := Lib.hid (HH52.out.below hb)
  have HB53 := Lib.hid (HB52.out.trans (hb.mono HB52.out.size))
  clear hb c0 c1 c2 HH52
  obtain ⟨c0, c1, c2⟩ := (And.intro HH53.out.c0 (And.intro HH53.out.c1 HH53.out.c2))
  go_upto_region 26 with fail
  go_cut [267] (fun s wx => s = .bool false ∧ Hid (Hold wx b g cp l lf lu A' n') ∧ Hid (Below w.heap.size w wx))
  case first =>
    by_cases hq : QC = 0
    · have hq1 := HQ.out hq
      have hnq : ¬ Q ≤ 0 := by omega
      subst hq
      go_wp2_with fail
      go_meet
      exact ⟨by first | rfl | (congr 1; exact decide_eq_false (by omega)), HH53.out, HB53.out⟩
    · have hq2 : (QC == 0) = false := by rw [beq_eq_false_iff_ne]; exact hq
      clear hq
      go_wp2_with fail
      go_meet
      exact ⟨by first | rfl | (congr 1; exact decide_eq_false (by omega)), HH53.out, HB53.out⟩
  case rest =>
  as_aux_lemma =>
  obtain ⟨rfl, HHa, HBa⟩ := hcut
  clear HH53 HB53 c0 c1 c2 K21 K22 K23
  have HH60 := Lib.hid HHa.out
  have HB60 := Lib.hid HBa.out
  clear HHa HBa
  obtain ⟨c0, c1, c2⟩ := (And.intro HH60.out.c0 (And.intro HH60.out.c1 HH60.out.c2))
  go_wp2_with fail
  refine (HW4.out _ HH60.out).mono ?_
  rintro e vt ⟨t, t0, t1, rfl, rfl⟩
  go_wp2_with fail
  obtain ⟨LV, LC, hLA, hcase⟩ := KL.out t t0 (by omega)
  have HLA := Lib.hid hLA
  have HCASE := Lib.hid hcase
  clear hLA hcase KL
  refine (HLA.out _ HH60.out).mono ?_
  rintro e v61 ⟨rfl, hb⟩
  have HH61 := Lib.hid (HH60.out.below hb)
  have HB61 := Lib.hid (HB60.out.trans (hb.mono HB60.out.size))
  clear hb c0 c1 c2 HH60
  obtain ⟨c0, c1, c2⟩ := (And.intro HH61.out.c0 (And.intro HH61.out.c1 HH61.out.c2))
  skip
  rcases HCASE.out with ⟨h1, h2⟩ | ⟨h1, h2, h3, h4, h5, h6⟩
  · subst h2
    go_wp2_with fail
    go_ret
    exact ⟨rfl, HB61.out⟩
  · subst h2
    go_wp2_with fail
    go_ret
    exact ⟨rfl, HB61.out⟩
end Go.Proofs.Ytiibpchbjaklcaa.CarL
