/- The law on cars: its middle, the loop. -/
import Derived.Test.YtiibpchbjaklcaaCarM
import Derived.Test.YtiibpchbjaklcaaSrcT
import Derived.Test.YtiibpchbjaklcaaTrkN
import Derived.Test.YtiibpchbjaklcaaTrkH
import Derived.Test.YtiibpchbjaklcaaTrkM
import Derived.Deep.DeepCutAuto
namespace Go.Proofs.Ytiibpchbjaklcaa.CarL
set_option maxRecDepth 100000
open Go.RowKit Go.Proofs.Ytiibpchbjaklcaa.Plain Go.Proofs.Ytiibpchbjaklcaa.TrkP Go.Proofs.Ytiibpchbjaklcaa.WalkA Go.Proofs.Ytiibpchbjaklcaa.TrkA Go.Proofs.Ytiibpchbjaklcaa.TrkC Go.Proofs.Ytiibpchbjaklcaa.TrkD Go.Proofs.Ytiibpchbjaklcaa.TrkE Go.Proofs.Ytiibpchbjaklcaa.TrkF Go.Proofs.Ytiibpchbjaklcaa.TrkG Go.Proofs.Ytiibpchbjaklcaa.TrkH Go.Proofs.Ytiibpchbjaklcaa.TrkJ Go.Proofs.Ytiibpchbjaklcaa.TrkK Go.Proofs.Ytiibpchbjaklcaa.TrkL Go.Proofs.Ytiibpchbjaklcaa.TrkM Go.Proofs.Ytiibpchbjaklcaa.TrkN Go.Proofs.Ytiibpchbjaklcaa.SrcT
open Go.Proofs.Ytiibpchbjaklcaa.SrcA (Bys Some64 r8Long_any r8At_any r8Wide_any)

/-- The code from the test on the loop on. -/
def RestC16 (A A' : Option Addr) (n n' c c' : Nat) (w : World) (b g cp : Nat) (l : List (Int × Int)) (lf lu N x y ap LE : Int) (IN : Bool) : Prop := ∀ (u2 u3 u4 u7 u10 u12 u13 u14 u15 u16 u17 u18 u19 u20 u27 u28 u29 u30 u31 u32 u33 u34 u35 u36 u37 u38 u39 u40 u41 u42 u43 u44 u45 u46 u47 u48 u49 u50 u51 u52 u53 u54 u55 u56 u57 u58 u59 u60 u61 u62 u63 u64 u65 u66 u67 u68 u69 u70 u71 u72 u73 u74 u75 u76 u77 u78 u79 u80 u81 u82 u83 u84 u85 u86 u87 u88 u89 u90 u91 u92 u93 u94 u95 u96 u97 u98 u99 u100 u101 u102 u103 u104 u105 u106 u107 u108 u109 u110 u111 u112 u113 u114 u115 u116 u117 u118 u119 u120 u121 u122 u123 u124 u125 u126 u127 u128 u129 u130 u131 u132 u133 u134 u135 u136 u137 u138 u139 u140 u141 u142 u143 u144 u145 u146 u147 u148 u149 u150 u151 u152 u153 u154 u155 u156 u157 u158 u159 u160 u161 u162 u163 u164 u165 u166 u167 u168 u169 u170 u171 u172 u173 u174 u175 u176 u177 u178 u179 u180 u181 u182 u183 u184 u185 u186 u187 u188 u189 u190 u191 u192 u193 u194 u195 u196 u197 u198 u199 u200 u201 u202 u203 u204 u205 u206 u207 u208 u209 u210 u211 u212 u213 u214 u215 u216 u217 u218 u219 u220 u221 u222 u223 u224 u225 u226 u227 u228 u229 u230 u231 u232 u233 u234 u235 u236 u237 u238 u239 u240 u241 u242 u243 u244 u245 u246 u247 u248 u249 u250 u251 u252 u253 u254 u255 u256 u257 u258 u259 u260 u261 u262 u263 u264 u265 u266 u267 u268 u269 u270 u271 u272 u273 u274 u275 u276 u277 u278 u279 u280 u281 u282 u283 u284 u285 u286 u287 u288 u289 u290 u291 u292 u293 u294 u295 u296 u297 u298 u299 u300 u301 u302 u303 : Value) (W : World), Hid (Hold W b g cp l lf lu A' n') → Hid (Below w.heap.size w W) →
  Code.wp Try.prog (dropSeq 16 B) (bodyPost Try.prog Try.f3 fun e w' => e = .returned (.bool true) ∧ Below w.heap.size w w') ⟨#[.slice A n c, .slice A' n' c', u2, u3, u4, .pointer (some ⟨b, 0, none⟩), .int .i64 N, u7, .int .i64 x, .int .i64 y, u10, .int .i64 ap, u12, u13, u14, u15, u16, u17, u18, u19, u20, .int .i64 lf, .int .i64 lu, .int .i64 0, .int .i64 LE, .int .i64 0, .bool IN, u27, u28, u29, u30, u31, u32, u33, u34, u35, u36, u37, u38, u39, u40, u41, u42, u43, u44, u45, u46, u47, u48, u49, u50, u51, u52, u53, u54, u55, u56, u57, u58, u59, u60, u61, u62, u63, u64, u65, u66, u67, u68, u69, u70, u71, u72, u73, u74, u75, u76, u77, u78, u79, u80, u81, u82, u83, u84, u85, u86, u87, u88, u89, u90, u91, u92, u93, u94, u95, u96, u97, u98, u99, u100, u101, u102, u103, u104, u105, u106, u107, u108, u109, u110, u111, u112, u113, u114, u115, u116, u117, u118, u119, u120, u121, u122, u123, u124, u125, u126, u127, u128, u129, u130, u131, u132, u133, u134, u135, u136, u137, u138, u139, u140, u141, u142, u143, u144, u145, u146, u147, u148, u149, u150, u151, u152, u153, u154, u155, u156, u157, u158, u159, u160, u161, u162, u163, u164, u165, u166, u167, u168, u169, u170, u171, u172, u173, u174, u175, u176, u177, u178, u179, u180, u181, u182, u183, u184, u185, u186, u187, u188, u189, u190, u191, u192, u193, u194, u195, u196, u197, u198, u199, u200, u201, u202, u203, u204, u205, u206, u207, u208, u209, u210, u211, u212, u213, u214, u215, u216, u217, u218, u219, u220, u221, u222, u223, u224, u225, u226, u227, u228, u229, u230, u231, u232, u233, u234, u235, u236, u237, u238, u239, u240, u241, u242, u243, u244, u245, u246, u247, u248, u249, u250, u251, u252, u253, u254, u255, u256, u257, u258, u259, u260, u261, u262, u263, u264, u265, u266, u267, u268, u269, u270, u271, u272, u273, u274, u275, u276, u277, u278, u279, u280, u281, u282, u283, u284, u285, u286, u287, u288, u289, u290, u291, u292, u293, u294, u295, u296, u297, u298, u299, u300, u301, u302, u303], []⟩ W
/-- The code behind it. -/
def RestC17 (A A' : Option Addr) (n n' c c' : Nat) (w : World) (b g cp : Nat) (l : List (Int × Int)) (lf lu N x y : Int) (IN : Bool) : Prop := ∀ (u2 u3 u4 u7 u10 u11 u12 u13 u14 u15 u16 u17 u18 u19 u20 u21 u22 u23 u24 u25 u27 u28 u29 u30 u31 u32 u33 u34 u35 u36 u37 u38 u39 u40 u41 u42 u43 u44 u45 u46 u47 u48 u49 u50 u51 u52 u53 u54 u55 u56 u57 u58 u59 u60 u61 u62 u63 u64 u65 u66 u67 u68 u69 u70 u71 u72 u73 u74 u75 u76 u77 u78 u79 u80 u81 u82 u83 u84 u85 u86 u87 u88 u89 u90 u91 u92 u93 u94 u95 u96 u97 u98 u99 u100 u101 u102 u103 u104 u105 u106 u107 u108 u109 u110 u111 u112 u113 u114 u115 u116 u117 u118 u119 u120 u121 u122 u123 u124 u125 u126 u127 u128 u129 u130 u131 u132 u133 u134 u135 u136 u137 u138 u139 u140 u141 u142 u143 u144 u145 u146 u147 u148 u149 u150 u151 u152 u153 u154 u155 u156 u157 u158 u159 u160 u161 u162 u163 u164 u165 u166 u167 u168 u169 u170 u171 u172 u173 u174 u175 u176 u177 u178 u179 u180 u181 u182 u183 u184 u185 u186 u187 u188 u189 u190 u191 u192 u193 u194 u195 u196 u197 u198 u199 u200 u201 u202 u203 u204 u205 u206 u207 u208 u209 u210 u211 u212 u213 u214 u215 u216 u217 u218 u219 u220 u221 u222 u223 u224 u225 u226 u227 u228 u229 u230 u231 u232 u233 u234 u235 u236 u237 u238 u239 u240 u241 u242 u243 u244 u245 u246 u247 u248 u249 u250 u251 u252 u253 u254 u255 u256 u257 u258 u259 u260 u261 u262 u263 u264 u265 u266 u267 u268 u269 u270 u271 u272 u273 u274 u275 u276 u277 u278 u279 u280 u281 u282 u283 u284 u285 u286 u287 u288 u289 u290 u291 u292 u293 u294 u295 u296 u297 u298 u299 u300 u301 u302 u303 : Value) (W : World), Hid (Hold W b g cp l lf lu A' n') → Hid (Below w.heap.size w W) →
  Code.wp Try.prog (dropSeq 17 B) (bodyPost Try.prog Try.f3 fun e w' => e = .returned (.bool true) ∧ Below w.heap.size w w') ⟨#[.slice A n c, .slice A' n' c', u2, u3, u4, .pointer (some ⟨b, 0, none⟩), .int .i64 N, u7, .int .i64 x, .int .i64 y, u10, u11, u12, u13, u14, u15, u16, u17, u18, u19, u20, u21, u22, u23, u24, u25, .bool IN, u27, u28, u29, u30, u31, u32, u33, u34, u35, u36, u37, u38, u39, u40, u41, u42, u43, u44, u45, u46, u47, u48, u49, u50, u51, u52, u53, u54, u55, u56, u57, u58, u59, u60, u61, u62, u63, u64, u65, u66, u67, u68, u69, u70, u71, u72, u73, u74, u75, u76, u77, u78, u79, u80, u81, u82, u83, u84, u85, u86, u87, u88, u89, u90, u91, u92, u93, u94, u95, u96, u97, u98, u99, u100, u101, u102, u103, u104, u105, u106, u107, u108, u109, u110, u111, u112, u113, u114, u115, u116, u117, u118, u119, u120, u121, u122, u123, u124, u125, u126, u127, u128, u129, u130, u131, u132, u133, u134, u135, u136, u137, u138, u139, u140, u141, u142, u143, u144, u145, u146, u147, u148, u149, u150, u151, u152, u153, u154, u155, u156, u157, u158, u159, u160, u161, u162, u163, u164, u165, u166, u167, u168, u169, u170, u171, u172, u173, u174, u175, u176, u177, u178, u179, u180, u181, u182, u183, u184, u185, u186, u187, u188, u189, u190, u191, u192, u193, u194, u195, u196, u197, u198, u199, u200, u201, u202, u203, u204, u205, u206, u207, u208, u209, u210, u211, u212, u213, u214, u215, u216, u217, u218, u219, u220, u221, u222, u223, u224, u225, u226, u227, u228, u229, u230, u231, u232, u233, u234, u235, u236, u237, u238, u239, u240, u241, u242, u243, u244, u245, u246, u247, u248, u249, u250, u251, u252, u253, u254, u255, u256, u257, u258, u259, u260, u261, u262, u263, u264, u265, u266, u267, u268, u269, u270, u271, u272, u273, u274, u275, u276, u277, u278, u279, u280, u281, u282, u283, u284, u285, u286, u287, u288, u289, u290, u291, u292, u293, u294, u295, u296, u297, u298, u299, u300, u301, u302, u303], []⟩ W
set_option maxRecDepth 1000000 in
set_option maxHeartbeats 40000000 in
theorem part16a (A A' : Option Addr) (n n' c c' : Nat) (w : World) (b g cp : Nat) (l : List (Int × Int)) (lf lu N x y ap LE : Int) (K18 : Hid (∀ W, Hold W b g cp l lf lu A' n' → Calls Try.prog 16 #[.agg #[.slice (some ⟨g, 0, none⟩) l.length cp, .int .i64 lf, .int .i64 lu], .int .i64 y] W fun e w' => e = .returned (.bool false) ∧ Below W.heap.size W w')) (K19 : Hid (∀ W, Hold W b g cp l lf lu A' n' → Calls Try.prog 17 #[.agg #[.slice (some ⟨g, 0, none⟩) l.length cp, .int .i64 lf, .int .i64 lu], .int .i64 LE] W fun e w' => e = .returned (.bool true) ∧ Below W.heap.size W w')) (K20 : Hid (∀ W, Hold W b g cp l lf lu A' n' → Calls Try.prog 17 #[.agg #[.slice (some ⟨g, 0, none⟩) l.length cp, .int .i64 lf, .int .i64 lu], .int .i64 (LE + 1)] W fun e w' => e = .returned (.bool false) ∧ Below W.heap.size W w')) (HSUM : Hid (lf + lu = N)) (hnl : ¬ ap < LE) (h1 : lf ≤ x) (h2 : ¬ x ≤ lu) (_hLE1 : 0 ≤ LE) (_hLE2 : LE ≤ 1095000) (_hlu1 : 0 ≤ lu) (_hlu3 : lu ≤ 1095000) (_hlen1 : 0 ≤ N) (_hlen2 : N ≤ 1095000) (HR17 : Hid (RestC17 A A' n n' c c' w b g cp l lf lu N x y false)) : RestC16 A A' n n' c c' w b g cp l lf lu N x y ap LE false := by
  unfold RestC16
  intro u2 u3 u4 u7 u10 u12 u13 u14 u15 u16 u17 u18 u19 u20 u27 u28 u29 u30 u31 u32 u33 u34 u35 u36 u37 u38 u39 u40 u41 u42 u43 u44 u45 u46 u47 u48 u49 u50 u51 u52 u53 u54 u55 u56 u57 u58 u59 u60 u61 u62 u63 u64 u65 u66 u67 u68 u69 u70 u71 u72 u73 u74 u75 u76 u77 u78 u79 u80 u81 u82 u83 u84 u85 u86 u87 u88 u89 u90 u91 u92 u93 u94 u95 u96 u97 u98 u99 u100 u101 u102 u103 u104 u105 u106 u107 u108 u109 u110 u111 u112 u113 u114 u115 u116 u117 u118 u119 u120 u121 u122 u123 u124 u125 u126 u127 u128 u129 u130 u131 u132 u133 u134 u135 u136 u137 u138 u139 u140 u141 u142 u143 u144 u145 u146 u147 u148 u149 u150 u151 u152 u153 u154 u155 u156 u157 u158 u159 u160 u161 u162 u163 u164 u165 u166 u167 u168 u169 u170 u171 u172 u173 u174 u175 u176 u177 u178 u179 u180 u181 u182 u183 u184 u185 u186 u187 u188 u189 u190 u191 u192 u193 u194 u195 u196 u197 u198 u199 u200 u201 u202 u203 u204 u205 u206 u207 u208 u209 u210 u211 u212 u213 u214 u215 u216 u217 u218 u219 u220 u221 u222 u223 u224 u225 u226 u227 u228 u229 u230 u231 u232 u233 u234 u235 u236 u237 u238 u239 u240 u241 u242 u243 u244 u245 u246 u247 u248 u249 u250 u251 u252 u253 u254 u255 u256 u257 u258 u259 u260 u261 u262 u263 u264 u265 u266 u267 u268 u269 u270 u271 u272 u273 u274 u275 u276 u277 u278 u279 u280 u281 u282 u283 u284 u285 u286 u287 u288 u289 u290 u291 u292 u293 u294 u295 u296 u297 u298 u299 u300 u301 u302 u303 W HH0 HB0
  have hsu0 := HSUM.out
  obtain ⟨c0, c1, c2⟩ := (And.intro HH0.out.c0 (And.intro HH0.out.c1 HH0.out.c2))
  conv => arg 2; whnf
  go_upto_region 19 with fail
  rename_i K8 hK8 Kc hKc
  have HK := Lib.hid hK8
  clear hK8
  go_wp2_with fail
  refine (K18.out _ HH0.out).mono ?_
  rintro e v1 ⟨rfl, hb⟩
  have HH1 := Lib.hid (HH0.out.below hb)
  have HB1 := Lib.hid (HB0.out.trans (hb.mono HB0.out.size))
  clear hb c0 c1 c2 HH0
  obtain ⟨c0, c1, c2⟩ := (And.intro HH1.out.c0 (And.intro HH1.out.c1 HH1.out.c2))
  go_wp2_with fail
  refine (K19.out _ HH1.out).mono ?_
  rintro e v2 ⟨rfl, hb⟩
  have HH2 := Lib.hid (HH1.out.below hb)
  have HB2 := Lib.hid (HB1.out.trans (hb.mono HB1.out.size))
  clear hb c0 c1 c2 HH1
  obtain ⟨c0, c1, c2⟩ := (And.intro HH2.out.c0 (And.intro HH2.out.c1 HH2.out.c2))
  go_wp2_with fail
  refine (K20.out _ HH2.out).mono ?_
  rintro e v3 ⟨rfl, hb⟩
  have HH3 := Lib.hid (HH2.out.below hb)
  have HB3 := Lib.hid (HB2.out.trans (hb.mono HB2.out.size))
  clear hb c0 c1 c2 HH2
  obtain ⟨c0, c1, c2⟩ := (And.intro HH3.out.c0 (And.intro HH3.out.c1 HH3.out.c2))
  go_wp2_with fail
  refine HK.out _ _ ?_
  exact HR17.out _ _ _ _ _ _ _ _ _ _ _ _ _ _ _ _ _ _ _ _ _ _ _ _ _ _ _ _ _ _ _ _ _ _ _ _ _ _ _ _ _ _ _ _ _ _ _ _ _ _ _ _ _ _ _ _ _ _ _ _ _ _ _ _ _ _ _ _ _ _ _ _ _ _ _ _ _ _ _ _ _ _ _ _ _ _ _ _ _ _ _ _ _ _ _ _ _ _ _ _ _ _ _ _ _ _ _ _ _ _ _ _ _ _ _ _ _ _ _ _ _ _ _ _ _ _ _ _ _ _ _ _ _ _ _ _ _ _ _ _ _ _ _ _ _ _ _ _ _ _ _ _ _ _ _ _ _ _ _ _ _ _ _ _ _ _ _ _ _ _ _ _ _ _ _ _ _ _ _ _ _ _ _ _ _ _ _ _ _ _ _ _ _ _ _ _ _ _ _ _ _ _ _ _ _ _ _ _ _ _ _ _ _ _ _ _ _ _ _ _ _ _ _ _ _ _ _ _ _ _ _ _ _ _ _ _ _ _ _ _ _ _ _ _ _ _ _ _ _ _ _ _ _ _ _ _ _ _ _ _ _ _ _ _ _ _ _ _ _ _ _ _ _ _ _ _ _ _ _ _ _ _ _ _ _ _ _ _ _ _ _ _ _ _ _ _ _ _ HH3 HB3
set_option maxRecDepth 1000000 in
set_option maxHeartbeats 40000000 in
theorem part16b (A A' : Option Addr) (n n' c c' : Nat) (w : World) (b g cp : Nat) (l : List (Int × Int)) (lf lu N x y ap LE : Int) (K18 : Hid (∀ W, Hold W b g cp l lf lu A' n' → Calls Try.prog 16 #[.agg #[.slice (some ⟨g, 0, none⟩) l.length cp, .int .i64 lf, .int .i64 lu], .int .i64 y] W fun e w' => e = .returned (.bool false) ∧ Below W.heap.size W w')) (K19 : Hid (∀ W, Hold W b g cp l lf lu A' n' → Calls Try.prog 17 #[.agg #[.slice (some ⟨g, 0, none⟩) l.length cp, .int .i64 lf, .int .i64 lu], .int .i64 LE] W fun e w' => e = .returned (.bool true) ∧ Below W.heap.size W w')) (K20 : Hid (∀ W, Hold W b g cp l lf lu A' n' → Calls Try.prog 17 #[.agg #[.slice (some ⟨g, 0, none⟩) l.length cp, .int .i64 lf, .int .i64 lu], .int .i64 (LE + 1)] W fun e w' => e = .returned (.bool false) ∧ Below W.heap.size W w')) (HSUM : Hid (lf + lu = N)) (hnl : ¬ ap < LE) (h1 : ¬ lf ≤ x) (_hLE1 : 0 ≤ LE) (_hLE2 : LE ≤ 1095000) (_hlu1 : 0 ≤ lu) (_hlu3 : lu ≤ 1095000) (_hlen1 : 0 ≤ N) (_hlen2 : N ≤ 1095000) (HR17 : Hid (RestC17 A A' n n' c c' w b g cp l lf lu N x y false)) : RestC16 A A' n n' c c' w b g cp l lf lu N x y ap LE false := by
  unfold RestC16
  intro u2 u3 u4 u7 u10 u12 u13 u14 u15 u16 u17 u18 u19 u20 u27 u28 u29 u30 u31 u32 u33 u34 u35 u36 u37 u38 u39 u40 u41 u42 u43 u44 u45 u46 u47 u48 u49 u50 u51 u52 u53 u54 u55 u56 u57 u58 u59 u60 u61 u62 u63 u64 u65 u66 u67 u68 u69 u70 u71 u72 u73 u74 u75 u76 u77 u78 u79 u80 u81 u82 u83 u84 u85 u86 u87 u88 u89 u90 u91 u92 u93 u94 u95 u96 u97 u98 u99 u100 u101 u102 u103 u104 u105 u106 u107 u108 u109 u110 u111 u112 u113 u114 u115 u116 u117 u118 u119 u120 u121 u122 u123 u124 u125 u126 u127 u128 u129 u130 u131 u132 u133 u134 u135 u136 u137 u138 u139 u140 u141 u142 u143 u144 u145 u146 u147 u148 u149 u150 u151 u152 u153 u154 u155 u156 u157 u158 u159 u160 u161 u162 u163 u164 u165 u166 u167 u168 u169 u170 u171 u172 u173 u174 u175 u176 u177 u178 u179 u180 u181 u182 u183 u184 u185 u186 u187 u188 u189 u190 u191 u192 u193 u194 u195 u196 u197 u198 u199 u200 u201 u202 u203 u204 u205 u206 u207 u208 u209 u210 u211 u212 u213 u214 u215 u216 u217 u218 u219 u220 u221 u222 u223 u224 u225 u226 u227 u228 u229 u230 u231 u232 u233 u234 u235 u236 u237 u238 u239 u240 u241 u242 u243 u244 u245 u246 u247 u248 u249 u250 u251 u252 u253 u254 u255 u256 u257 u258 u259 u260 u261 u262 u263 u264 u265 u266 u267 u268 u269 u270 u271 u272 u273 u274 u275 u276 u277 u278 u279 u280 u281 u282 u283 u284 u285 u286 u287 u288 u289 u290 u291 u292 u293 u294 u295 u296 u297 u298 u299 u300 u301 u302 u303 W HH0 HB0
  have hsu0 := HSUM.out
  obtain ⟨c0, c1, c2⟩ := (And.intro HH0.out.c0 (And.intro HH0.out.c1 HH0.out.c2))
  conv => arg 2; whnf
  go_upto_region 19 with fail
  rename_i K8 hK8 Kc hKc
  have HK := Lib.hid hK8
  clear hK8
  go_wp2_with fail
  refine (K18.out _ HH0.out).mono ?_
  rintro e v1 ⟨rfl, hb⟩
  have HH1 := Lib.hid (HH0.out.below hb)
  have HB1 := Lib.hid (HB0.out.trans (hb.mono HB0.out.size))
  clear hb c0 c1 c2 HH0
  obtain ⟨c0, c1, c2⟩ := (And.intro HH1.out.c0 (And.intro HH1.out.c1 HH1.out.c2))
  go_wp2_with fail
  refine (K19.out _ HH1.out).mono ?_
  rintro e v2 ⟨rfl, hb⟩
  have HH2 := Lib.hid (HH1.out.below hb)
  have HB2 := Lib.hid (HB1.out.trans (hb.mono HB1.out.size))
  clear hb c0 c1 c2 HH1
  obtain ⟨c0, c1, c2⟩ := (And.intro HH2.out.c0 (And.intro HH2.out.c1 HH2.out.c2))
  go_wp2_with fail
  refine (K20.out _ HH2.out).mono ?_
  rintro e v3 ⟨rfl, hb⟩
  have HH3 := Lib.hid (HH2.out.below hb)
  have HB3 := Lib.hid (HB2.out.trans (hb.mono HB2.out.size))
  clear hb c0 c1 c2 HH2
  obtain ⟨c0, c1, c2⟩ := (And.intro HH3.out.c0 (And.intro HH3.out.c1 HH3.out.c2))
  go_wp2_with fail
  refine HK.out _ _ ?_
  exact HR17.out _ _ _ _ _ _ _ _ _ _ _ _ _ _ _ _ _ _ _ _ _ _ _ _ _ _ _ _ _ _ _ _ _ _ _ _ _ _ _ _ _ _ _ _ _ _ _ _ _ _ _ _ _ _ _ _ _ _ _ _ _ _ _ _ _ _ _ _ _ _ _ _ _ _ _ _ _ _ _ _ _ _ _ _ _ _ _ _ _ _ _ _ _ _ _ _ _ _ _ _ _ _ _ _ _ _ _ _ _ _ _ _ _ _ _ _ _ _ _ _ _ _ _ _ _ _ _ _ _ _ _ _ _ _ _ _ _ _ _ _ _ _ _ _ _ _ _ _ _ _ _ _ _ _ _ _ _ _ _ _ _ _ _ _ _ _ _ _ _ _ _ _ _ _ _ _ _ _ _ _ _ _ _ _ _ _ _ _ _ _ _ _ _ _ _ _ _ _ _ _ _ _ _ _ _ _ _ _ _ _ _ _ _ _ _ _ _ _ _ _ _ _ _ _ _ _ _ _ _ _ _ _ _ _ _ _ _ _ _ _ _ _ _ _ _ _ _ _ _ _ _ _ _ _ _ _ _ _ _ _ _ _ _ _ _ _ _ _ _ _ _ _ _ _ _ _ _ _ _ _ _ _ _ _ _ _ _ _ _ _ _ _ _ _ _ _ _ _ HH3 HB3
set_option maxRecDepth 1000000 in
set_option maxHeartbeats 40000000 in
theorem part16c (A A' : Option Addr) (n n' c c' : Nat) (w : World) (b g cp : Nat) (l : List (Int × Int)) (lf lu N x y ap LE : Int) (K18 : Hid (∀ W, Hold W b g cp l lf lu A' n' → Calls Try.prog 16 #[.agg #[.slice (some ⟨g, 0, none⟩) l.length cp, .int .i64 lf, .int .i64 lu], .int .i64 y] W fun e w' => e = .returned (.bool true) ∧ Below W.heap.size W w')) (K19 : Hid (∀ W, Hold W b g cp l lf lu A' n' → Calls Try.prog 17 #[.agg #[.slice (some ⟨g, 0, none⟩) l.length cp, .int .i64 lf, .int .i64 lu], .int .i64 LE] W fun e w' => e = .returned (.bool true) ∧ Below W.heap.size W w')) (K20 : Hid (∀ W, Hold W b g cp l lf lu A' n' → Calls Try.prog 17 #[.agg #[.slice (some ⟨g, 0, none⟩) l.length cp, .int .i64 lf, .int .i64 lu], .int .i64 (LE + 1)] W fun e w' => e = .returned (.bool false) ∧ Below W.heap.size W w')) (HSUM : Hid (lf + lu = N)) (h1 : lf ≤ x) (h2 : x ≤ lu) (_hLE1 : 0 ≤ LE) (_hLE2 : LE ≤ 1095000) (_hlu1 : 0 ≤ lu) (_hlu3 : lu ≤ 1095000) (_hlen1 : 0 ≤ N) (_hlen2 : N ≤ 1095000) (HR17 : Hid (RestC17 A A' n n' c c' w b g cp l lf lu N x y true)) : RestC16 A A' n n' c c' w b g cp l lf lu N x y ap LE true := by
  unfold RestC16
  intro u2 u3 u4 u7 u10 u12 u13 u14 u15 u16 u17 u18 u19 u20 u27 u28 u29 u30 u31 u32 u33 u34 u35 u36 u37 u38 u39 u40 u41 u42 u43 u44 u45 u46 u47 u48 u49 u50 u51 u52 u53 u54 u55 u56 u57 u58 u59 u60 u61 u62 u63 u64 u65 u66 u67 u68 u69 u70 u71 u72 u73 u74 u75 u76 u77 u78 u79 u80 u81 u82 u83 u84 u85 u86 u87 u88 u89 u90 u91 u92 u93 u94 u95 u96 u97 u98 u99 u100 u101 u102 u103 u104 u105 u106 u107 u108 u109 u110 u111 u112 u113 u114 u115 u116 u117 u118 u119 u120 u121 u122 u123 u124 u125 u126 u127 u128 u129 u130 u131 u132 u133 u134 u135 u136 u137 u138 u139 u140 u141 u142 u143 u144 u145 u146 u147 u148 u149 u150 u151 u152 u153 u154 u155 u156 u157 u158 u159 u160 u161 u162 u163 u164 u165 u166 u167 u168 u169 u170 u171 u172 u173 u174 u175 u176 u177 u178 u179 u180 u181 u182 u183 u184 u185 u186 u187 u188 u189 u190 u191 u192 u193 u194 u195 u196 u197 u198 u199 u200 u201 u202 u203 u204 u205 u206 u207 u208 u209 u210 u211 u212 u213 u214 u215 u216 u217 u218 u219 u220 u221 u222 u223 u224 u225 u226 u227 u228 u229 u230 u231 u232 u233 u234 u235 u236 u237 u238 u239 u240 u241 u242 u243 u244 u245 u246 u247 u248 u249 u250 u251 u252 u253 u254 u255 u256 u257 u258 u259 u260 u261 u262 u263 u264 u265 u266 u267 u268 u269 u270 u271 u272 u273 u274 u275 u276 u277 u278 u279 u280 u281 u282 u283 u284 u285 u286 u287 u288 u289 u290 u291 u292 u293 u294 u295 u296 u297 u298 u299 u300 u301 u302 u303 W HH0 HB0
  have hsu0 := HSUM.out
  obtain ⟨c0, c1, c2⟩ := (And.intro HH0.out.c0 (And.intro HH0.out.c1 HH0.out.c2))
  conv => arg 2; whnf
  go_upto_region 19 with fail
  rename_i K8 hK8 Kc hKc
  have HK := Lib.hid hK8
  clear hK8
  go_wp2_with fail
  refine (K18.out _ HH0.out).mono ?_
  rintro e v1 ⟨rfl, hb⟩
  have HH1 := Lib.hid (HH0.out.below hb)
  have HB1 := Lib.hid (HB0.out.trans (hb.mono HB0.out.size))
  clear hb c0 c1 c2 HH0
  obtain ⟨c0, c1, c2⟩ := (And.intro HH1.out.c0 (And.intro HH1.out.c1 HH1.out.c2))
  go_wp2_with fail
  refine (K19.out _ HH1.out).mono ?_
  rintro e v2 ⟨rfl, hb⟩
  have HH2 := Lib.hid (HH1.out.below hb)
  have HB2 := Lib.hid (HB1.out.trans (hb.mono HB1.out.size))
  clear hb c0 c1 c2 HH1
  obtain ⟨c0, c1, c2⟩ := (And.intro HH2.out.c0 (And.intro HH2.out.c1 HH2.out.c2))
  go_wp2_with fail
  refine (K20.out _ HH2.out).mono ?_
  rintro e v3 ⟨rfl, hb⟩
  have HH3 := Lib.hid (HH2.out.below hb)
  have HB3 := Lib.hid (HB2.out.trans (hb.mono HB2.out.size))
  clear hb c0 c1 c2 HH2
  obtain ⟨c0, c1, c2⟩ := (And.intro HH3.out.c0 (And.intro HH3.out.c1 HH3.out.c2))
  go_wp2_with fail
  refine HK.out _ _ ?_
  exact HR17.out _ _ _ _ _ _ _ _ _ _ _ _ _ _ _ _ _ _ _ _ _ _ _ _ _ _ _ _ _ _ _ _ _ _ _ _ _ _ _ _ _ _ _ _ _ _ _ _ _ _ _ _ _ _ _ _ _ _ _ _ _ _ _ _ _ _ _ _ _ _ _ _ _ _ _ _ _ _ _ _ _ _ _ _ _ _ _ _ _ _ _ _ _ _ _ _ _ _ _ _ _ _ _ _ _ _ _ _ _ _ _ _ _ _ _ _ _ _ _ _ _ _ _ _ _ _ _ _ _ _ _ _ _ _ _ _ _ _ _ _ _ _ _ _ _ _ _ _ _ _ _ _ _ _ _ _ _ _ _ _ _ _ _ _ _ _ _ _ _ _ _ _ _ _ _ _ _ _ _ _ _ _ _ _ _ _ _ _ _ _ _ _ _ _ _ _ _ _ _ _ _ _ _ _ _ _ _ _ _ _ _ _ _ _ _ _ _ _ _ _ _ _ _ _ _ _ _ _ _ _ _ _ _ _ _ _ _ _ _ _ _ _ _ _ _ _ _ _ _ _ _ _ _ _ _ _ _ _ _ _ _ _ _ _ _ _ _ _ _ _ _ _ _ _ _ _ _ _ _ _ _ _ _ _ _ _ _ _ _ _ _ _ _ _ _ _ _ _ HH3 HB3
set_option maxRecDepth 1000000 in
set_option maxHeartbeats 40000000 in
theorem part17 (A A' : Option Addr) (n n' c c' : Nat) (w : World) (b g cp : Nat) (l : List (Int × Int)) (lf lu N x y : Int) (IN : Bool) (HIN : Hid (IN = inB x lf lu)) (HSUM : Hid (lf + lu = N)) (HY : Hid (y = N - x)) (HR18 : Hid (RestC18 A A' n n' c c' w b g cp l lf lu N)) : RestC17 A A' n n' c c' w b g cp l lf lu N x y IN := by
  unfold RestC17
  intro u2 u3 u4 u7 u10 u11 u12 u13 u14 u15 u16 u17 u18 u19 u20 u21 u22 u23 u24 u25 u27 u28 u29 u30 u31 u32 u33 u34 u35 u36 u37 u38 u39 u40 u41 u42 u43 u44 u45 u46 u47 u48 u49 u50 u51 u52 u53 u54 u55 u56 u57 u58 u59 u60 u61 u62 u63 u64 u65 u66 u67 u68 u69 u70 u71 u72 u73 u74 u75 u76 u77 u78 u79 u80 u81 u82 u83 u84 u85 u86 u87 u88 u89 u90 u91 u92 u93 u94 u95 u96 u97 u98 u99 u100 u101 u102 u103 u104 u105 u106 u107 u108 u109 u110 u111 u112 u113 u114 u115 u116 u117 u118 u119 u120 u121 u122 u123 u124 u125 u126 u127 u128 u129 u130 u131 u132 u133 u134 u135 u136 u137 u138 u139 u140 u141 u142 u143 u144 u145 u146 u147 u148 u149 u150 u151 u152 u153 u154 u155 u156 u157 u158 u159 u160 u161 u162 u163 u164 u165 u166 u167 u168 u169 u170 u171 u172 u173 u174 u175 u176 u177 u178 u179 u180 u181 u182 u183 u184 u185 u186 u187 u188 u189 u190 u191 u192 u193 u194 u195 u196 u197 u198 u199 u200 u201 u202 u203 u204 u205 u206 u207 u208 u209 u210 u211 u212 u213 u214 u215 u216 u217 u218 u219 u220 u221 u222 u223 u224 u225 u226 u227 u228 u229 u230 u231 u232 u233 u234 u235 u236 u237 u238 u239 u240 u241 u242 u243 u244 u245 u246 u247 u248 u249 u250 u251 u252 u253 u254 u255 u256 u257 u258 u259 u260 u261 u262 u263 u264 u265 u266 u267 u268 u269 u270 u271 u272 u273 u274 u275 u276 u277 u278 u279 u280 u281 u282 u283 u284 u285 u286 u287 u288 u289 u290 u291 u292 u293 u294 u295 u296 u297 u298 u299 u300 u301 u302 u303 W HH50 HB50
  obtain ⟨c0, c1, c2⟩ := (And.intro HH50.out.c0 (And.intro HH50.out.c1 HH50.out.c2))
  conv => arg 2; whnf
  conv => arg 4; zeta
  go_upto_region 21 with fail
  rename_i K8 hK8 Kc hKc
  have HK := Lib.hid hK8
  clear hK8
  go_cut [231] (fun s wx => s = .bool false ∧ Hid (Hold wx b g cp l lf lu A' n') ∧ Hid (Below w.heap.size w wx))
  case first =>
    have hsu := HSUM.out
    have hy := HY.out
    cases IN
    · have hin := inB_not.1 HIN.out.symm
      by_cases hc : x ≤ y
      · have h3 : ¬ lf ≤ x := by omega
        clear hin hy hsu
        go_wp2_with fail
        go_meet
        exact ⟨by first | rfl | (congr 1; exact decide_eq_false (by omega)), HH50.out, HB50.out⟩
      · have h3 : ¬ lf ≤ y := by omega
        clear hin hy hsu
        go_wp2_with fail
        go_meet
        exact ⟨by first | rfl | (congr 1; exact decide_eq_false (by omega)), HH50.out, HB50.out⟩
    · obtain ⟨h1, h2⟩ := inB_iff.1 HIN.out.symm
      have h3 : lf ≤ y := by omega
      have h4 : y ≤ lu := by omega
      clear hy hsu
      by_cases hc : x ≤ y
      all_goals
        go_wp2_with fail
        all_goals
          go_meet
          exact ⟨by first | rfl | (congr 1; exact decide_eq_true (by omega)), HH50.out, HB50.out⟩
  case rest =>
  obtain ⟨rfl, HHa, HBa⟩ := hcut
  clear HH50 HB50 c0 c1 c2
  go_wp2_with fail
  refine HK.out _ _ ?_
  exact HR18.out _ _ _ _ _ _ _ _ _ _ _ _ _ _ _ _ _ _ _ _ _ _ _ _ _ _ _ _ _ _ _ _ _ _ _ _ _ _ _ _ _ _ _ _ _ _ _ _ _ _ _ _ _ _ _ _ _ _ _ _ _ _ _ _ _ _ _ _ _ _ _ _ _ _ _ _ _ _ _ _ _ _ _ _ _ _ _ _ _ _ _ _ _ _ _ _ _ _ _ _ _ _ _ _ _ _ _ _ _ _ _ _ _ _ _ _ _ _ _ _ _ _ _ _ _ _ _ _ _ _ _ _ _ _ _ _ _ _ _ _ _ _ _ _ _ _ _ _ _ _ _ _ _ _ _ _ _ _ _ _ _ _ _ _ _ _ _ _ _ _ _ _ _ _ _ _ _ _ _ _ _ _ _ _ _ _ _ _ _ _ _ _ _ _ _ _ _ _ _ _ _ _ _ _ _ _ _ _ _ _ _ _ _ _ _ _ _ _ _ _ _ _ _ _ _ _ _ _ _ _ _ _ _ _ _ _ _ _ _ _ _ _ _ _ _ _ _ _ _ _ _ _ _ _ _ _ _ _ _ _ _ _ _ _ _ _ _ _ _ _ _ _ _ _ _ _ _ _ _ _ _ _ _ _ _ _ _ _ _ _ _ _ _ _ _ _ _ _ _ _ _ HHa HBa
set_option maxRecDepth 1000000 in
set_option maxHeartbeats 40000000 in
theorem part13 (A A' : Option Addr) (n n' c c' : Nat) (w : World) (b g cp : Nat) (l : List (Int × Int)) (lf lu N x y ap LE : Int) (IN : Bool) (K15 : Hid (∀ W, Hold W b g cp l lf lu A' n' → Calls Try.prog 14 #[.agg #[.slice (some ⟨g, 0, none⟩) l.length cp, .int .i64 lf, .int .i64 lu]] W fun e w' => e = .returned (.tuple #[.int .i64 lf, .int .i64 lu, .int .i64 0]) ∧ Below W.heap.size W w')) (K16 : Hid (∀ W, Hold W b g cp l lf lu A' n' → Calls Try.prog 15 #[.agg #[.slice (some ⟨g, 0, none⟩) l.length cp, .int .i64 lf, .int .i64 lu]] W fun e w' => e = .returned (.tuple #[.int .i64 LE, .int .i64 0]) ∧ Below W.heap.size W w')) (K17 : Hid (∀ W, Hold W b g cp l lf lu A' n' → Calls Try.prog 16 #[.agg #[.slice (some ⟨g, 0, none⟩) l.length cp, .int .i64 lf, .int .i64 lu], .int .i64 x] W fun e w' => e = .returned (.bool IN) ∧ Below W.heap.size W w')) (K18 : Hid (∀ W, Hold W b g cp l lf lu A' n' → Calls Try.prog 16 #[.agg #[.slice (some ⟨g, 0, none⟩) l.length cp, .int .i64 lf, .int .i64 lu], .int .i64 y] W fun e w' => e = .returned (.bool IN) ∧ Below W.heap.size W w')) (K19 : Hid (∀ W, Hold W b g cp l lf lu A' n' → Calls Try.prog 17 #[.agg #[.slice (some ⟨g, 0, none⟩) l.length cp, .int .i64 lf, .int .i64 lu], .int .i64 LE] W fun e w' => e = .returned (.bool true) ∧ Below W.heap.size W w')) (K20 : Hid (∀ W, Hold W b g cp l lf lu A' n' → Calls Try.prog 17 #[.agg #[.slice (some ⟨g, 0, none⟩) l.length cp, .int .i64 lf, .int .i64 lu], .int .i64 (LE + 1)] W fun e w' => e = .returned (.bool false) ∧ Below W.heap.size W w')) (HAPL : Hid (¬ (lf ≤ x ∧ x ≤ lu) → LE ≤ ap)) (HIN : Hid (IN = inB x lf lu)) (HSUM : Hid (lf + lu = N)) (HY : Hid (y = N - x)) (_hLE1 : 0 ≤ LE) (_hLE2 : LE ≤ 1095000) (_hlu1 : 0 ≤ lu) (_hlu3 : lu ≤ 1095000) (_hlen1 : 0 ≤ N) (_hlen2 : N ≤ 1095000) (HR18 : Hid (RestC18 A A' n n' c c' w b g cp l lf lu N)) : RestC13 A A' n n' c c' w b g cp l lf lu N x y ap := by
  have HR17 := Lib.hid (part17 A A' n n' c c' w b g cp l lf lu N x y IN HIN HSUM HY HR18)
  have HR16 : Hid (RestC16 A A' n n' c c' w b g cp l lf lu N x y ap LE IN) := by
    cases IN
    · have hin := inB_not.1 HIN.out.symm
      have hle := HAPL.out hin
      have hnl : ¬ ap < LE := by omega
      by_cases h1 : lf ≤ x
      · exact Lib.hid (part16a A A' n n' c c' w b g cp l lf lu N x y ap LE K18 K19 K20 HSUM hnl h1 (fun h => hin ⟨h1, h⟩) _hLE1 _hLE2 _hlu1 _hlu3 _hlen1 _hlen2 HR17)
      · exact Lib.hid (part16b A A' n n' c c' w b g cp l lf lu N x y ap LE K18 K19 K20 HSUM hnl h1 _hLE1 _hLE2 _hlu1 _hlu3 _hlen1 _hlen2 HR17)
    · obtain ⟨h1, h2⟩ := inB_iff.1 HIN.out.symm
      exact Lib.hid (part16c A A' n n' c c' w b g cp l lf lu N x y ap LE K18 K19 K20 HSUM h1 h2 _hLE1 _hLE2 _hlu1 _hlu3 _hlen1 _hlen2 HR17)
  unfold RestC13
  intro u2 u3 u4 u7 u10 u12 u13 u14 u15 u16 u17 u18 u19 u20 u21 u22 u23 u24 u25 u26 u27 u28 u29 u30 u31 u32 u33 u34 u35 u36 u37 u38 u39 u40 u41 u42 u43 u44 u45 u46 u47 u48 u49 u50 u51 u52 u53 u54 u55 u56 u57 u58 u59 u60 u61 u62 u63 u64 u65 u66 u67 u68 u69 u70 u71 u72 u73 u74 u75 u76 u77 u78 u79 u80 u81 u82 u83 u84 u85 u86 u87 u88 u89 u90 u91 u92 u93 u94 u95 u96 u97 u98 u99 u100 u101 u102 u103 u104 u105 u106 u107 u108 u109 u110 u111 u112 u113 u114 u115 u116 u117 u118 u119 u120 u121 u122 u123 u124 u125 u126 u127 u128 u129 u130 u131 u132 u133 u134 u135 u136 u137 u138 u139 u140 u141 u142 u143 u144 u145 u146 u147 u148 u149 u150 u151 u152 u153 u154 u155 u156 u157 u158 u159 u160 u161 u162 u163 u164 u165 u166 u167 u168 u169 u170 u171 u172 u173 u174 u175 u176 u177 u178 u179 u180 u181 u182 u183 u184 u185 u186 u187 u188 u189 u190 u191 u192 u193 u194 u195 u196 u197 u198 u199 u200 u201 u202 u203 u204 u205 u206 u207 u208 u209 u210 u211 u212 u213 u214 u215 u216 u217 u218 u219 u220 u221 u222 u223 u224 u225 u226 u227 u228 u229 u230 u231 u232 u233 u234 u235 u236 u237 u238 u239 u240 u241 u242 u243 u244 u245 u246 u247 u248 u249 u250 u251 u252 u253 u254 u255 u256 u257 u258 u259 u260 u261 u262 u263 u264 u265 u266 u267 u268 u269 u270 u271 u272 u273 u274 u275 u276 u277 u278 u279 u280 u281 u282 u283 u284 u285 u286 u287 u288 u289 u290 u291 u292 u293 u294 u295 u296 u297 u298 u299 u300 u301 u302 u303 W HH0 HB0
  obtain ⟨c0, c1, c2⟩ := (And.intro HH0.out.c0 (And.intro HH0.out.c1 HH0.out.c2))
  clear K18 K19 K20 HAPL HIN HSUM HY HR17 HR18
  conv => arg 2; whnf
  go_wp2_with fail
  refine (K15.out _ HH0.out).mono ?_
  rintro e v1 ⟨rfl, hb⟩
  have HH1 := Lib.hid (HH0.out.below hb)
  have HB1 := Lib.hid (HB0.out.trans (hb.mono HB0.out.size))
  clear hb c0 c1 c2 HH0
  obtain ⟨c0, c1, c2⟩ := (And.intro HH1.out.c0 (And.intro HH1.out.c1 HH1.out.c2))
  go_wp2_with fail
  refine (K16.out _ HH1.out).mono ?_
  rintro e v2 ⟨rfl, hb⟩
  have HH2 := Lib.hid (HH1.out.below hb)
  have HB2 := Lib.hid (HB1.out.trans (hb.mono HB1.out.size))
  clear hb c0 c1 c2 HH1
  obtain ⟨c0, c1, c2⟩ := (And.intro HH2.out.c0 (And.intro HH2.out.c1 HH2.out.c2))
  go_upto_region 18 with fail
  rename_i K8 hK8
  have HK := Lib.hid hK8
  clear hK8
  go_wp2_with fail
  refine (K17.out _ HH2.out).mono ?_
  rintro e v3 ⟨rfl, hb⟩
  have HH3 := Lib.hid (HH2.out.below hb)
  have HB3 := Lib.hid (HB2.out.trans (hb.mono HB2.out.size))
  clear hb c0 c1 c2 HH2
  obtain ⟨c0, c1, c2⟩ := (And.intro HH3.out.c0 (And.intro HH3.out.c1 HH3.out.c2))
  go_wp2_with fail
  refine HK.out _ _ ?_
  exact HR16.out _ _ _ _ _ _ _ _ _ _ _ _ _ _ _ _ _ _ _ _ _ _ _ _ _ _ _ _ _ _ _ _ _ _ _ _ _ _ _ _ _ _ _ _ _ _ _ _ _ _ _ _ _ _ _ _ _ _ _ _ _ _ _ _ _ _ _ _ _ _ _ _ _ _ _ _ _ _ _ _ _ _ _ _ _ _ _ _ _ _ _ _ _ _ _ _ _ _ _ _ _ _ _ _ _ _ _ _ _ _ _ _ _ _ _ _ _ _ _ _ _ _ _ _ _ _ _ _ _ _ _ _ _ _ _ _ _ _ _ _ _ _ _ _ _ _ _ _ _ _ _ _ _ _ _ _ _ _ _ _ _ _ _ _ _ _ _ _ _ _ _ _ _ _ _ _ _ _ _ _ _ _ _ _ _ _ _ _ _ _ _ _ _ _ _ _ _ _ _ _ _ _ _ _ _ _ _ _ _ _ _ _ _ _ _ _ _ _ _ _ _ _ _ _ _ _ _ _ _ _ _ _ _ _ _ _ _ _ _ _ _ _ _ _ _ _ _ _ _ _ _ _ _ _ _ _ _ _ _ _ _ _ _ _ _ _ _ _ _ _ _ _ _ _ _ _ _ _ _ _ _ _ _ _ _ _ _ _ _ _ _ _ HH3 HB3
end Go.Proofs.Ytiibpchbjaklcaa.CarL
