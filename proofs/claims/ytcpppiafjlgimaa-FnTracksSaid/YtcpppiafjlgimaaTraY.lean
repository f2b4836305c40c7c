/- The first place of a height in the law on tracks. -/
import Derived.Test.YtcpppiafjlgimaaTraX
import Derived.Test.YtcpppiafjlgimaaTraV
import Derived.Test.YtcpppiafjlgimaaTraW
import Derived.Test.YtcpppiafjlgimaaTraU
import Derived.Test.YtcpppiafjlgimaaTraT
import Derived.Test.YtcpppiafjlgimaaTraA
import Derived.Test.YtcpppiafjlgimaaTraP
import Derived.Test.YtcpppiafjlgimaaTrkY
import Derived.Test.YtcpppiafjlgimaaTrkO
import Derived.Test.YtcpppiafjlgimaaTrkI
import Derived.Test.YtcpppiafjlgimaaTrkG
import Derived.Deep.DeepCutAuto
namespace Go.Proofs.Ytcpppiafjlgimaa.TraY
set_option maxRecDepth 100000
open Go.Proofs.Ytcpppiafjlgimaa.TraX Go.Proofs.Ytcpppiafjlgimaa.TraW Go.Proofs.Ytcpppiafjlgimaa.TraV Go.Proofs.Ytcpppiafjlgimaa.TraU Go.Proofs.Ytcpppiafjlgimaa.TraT Go.Proofs.Ytcpppiafjlgimaa.TraA Go.RowKit Go.Proofs.Ytcpppiafjlgimaa.Plain Go.Proofs.Ytcpppiafjlgimaa.TrkP Go.Proofs.Ytcpppiafjlgimaa.WalkA Go.Proofs.Ytcpppiafjlgimaa.TrkA Go.Proofs.Ytcpppiafjlgimaa.TrkC Go.Proofs.Ytcpppiafjlgimaa.TrkD Go.Proofs.Ytcpppiafjlgimaa.TrkE Go.Proofs.Ytcpppiafjlgimaa.TrkF Go.Proofs.Ytcpppiafjlgimaa.TrkG Go.Proofs.Ytcpppiafjlgimaa.TrkH Go.Proofs.Ytcpppiafjlgimaa.TrkI Go.Proofs.Ytcpppiafjlgimaa.TrkJ Go.Proofs.Ytcpppiafjlgimaa.TrkO Go.Proofs.Ytcpppiafjlgimaa.TrkS Go.Proofs.Ytcpppiafjlgimaa.TrkT Go.Proofs.Ytcpppiafjlgimaa.TrkV Go.Proofs.Ytcpppiafjlgimaa.TrkY0 Go.Proofs.Ytcpppiafjlgimaa.TrkY Go.Proofs.Ytcpppiafjlgimaa.SrcT Go.Proofs.Ytcpppiafjlgimaa.TraP
open Go.Proofs.Ytcpppiafjlgimaa.SrcA (Bys Some64 r8Long_any r8At_any r8Wide_any)





theorem Cel.all3 {W : World} {b : Nat} {v : Value} {lf lu : Int} (h : Cel W b v lf lu) : W.cell? ⟨b, 0, none⟩ = some v ∧ W.cell? ⟨b, 1, none⟩ = some (.int .i64 lf) ∧ W.cell? ⟨b, 2, none⟩ = some (.int .i64 lu) := ⟨h.c0, h.c1, h.c2⟩

set_option maxRecDepth 1000000 in
set_option maxHeartbeats 8000000 in
theorem tail15 (u2 u3 u4 u7 u8 u9 u12 u13 u15 u16 u17 u18 u19 u20 u21 u22 u23 u24 u25 u26 u27 u28 u29 u30 u31 u32 u33 u34 u35 u36 u37 u38 u39 u40 u41 u42 u43 u44 u45 u46 u47 u48 u49 u50 u51 u52 u53 u54 u55 u56 u57 u58 u59 u60 u61 u62 u63 u64 u65 u66 u67 u68 u69 u70 u71 u72 u73 u74 u75 u76 u77 u78 u79 u80 u81 u82 u83 u84 u85 u86 u87 u88 u89 u90 u91 u92 u93 u94 u95 u96 u97 u98 u99 u100 u101 u102 u103 u104 u105 u106 u107 u108 u109 u110 u111 u112 u113 u114 u115 u116 u117 u118 u119 u120 u121 u122 u123 u124 u125 u126 u127 u128 u129 u130 u131 u132 u133 u134 u135 u136 u137 u138 u139 u140 u141 u142 u143 u144 u145 u146 u147 u148 u149 u150 u151 u152 u153 u154 u155 u156 u157 u158 u159 u160 u161 u162 u163 u164 u165 u166 u167 u168 u169 u170 u171 u172 u173 u174 u175 u176 u177 u178 u179 u180 u181 u182 u183 u184 u185 u186 u187 u188 u189 u190 u191 u192 u193 u194 u195 u196 u197 u198 u199 u200 u201 u202 u203 u204 u205 u206 u207 u208 u209 u210 u211 u212 u213 u214 u215 u216 u217 u218 u219 u220 u221 u222 u223 u224 u225 u226 u227 u228 u229 u230 u231 u232 u233 u234 u235 u236 u237 u238 u239 u240 u241 u242 u243 u244 u245 u246 u247 u248 u249 u250 u251 u252 u253 u254 u255 u256 u257 u258 u259 u260 u261 u262 u263 u264 u265 u266 u267 u268 u269 u270 u271 u272 u273 u274 u275 u276 u277 u278 u279 u280 u281 u282 u283 u284 u285 u286 u287 u288 u289 u290 u291 u292 u293 u294 u295 u296 u297 u298 u299 u300 u301 u302 u303 u304 u305 u306 u307 u308 u309 u310 u311 u312 u313 u314 u315 u316 u317 u318 u319 u320 u321 u322 u323 u324 u325 u326 u327 u328 u329 u330 u331 u332 u333 u334 u335 u336 u337 u338 u339 u340 u341 u342 u343 u344 u345 u346 u347 u348 u349 u350 u351 u352 u353 u354 u355 u356 u357 u358 u359 u360 u361 u362 u363 u364 u365 u366 u367 u368 u369 u370 u371 u372 u373 u374 u375 u376 u377 u378 u379 u380 u381 u382 u383 u384 u385 u386 u387 u388 u389 u390 u391 u392 u393 u394 u395 u396 u397 u398 u399 : Value) (A A' : Option Addr) (n n' c c' b g cp : Nat) (N x y high lf lu : Int) (w W : World) (l : List (Int × Int))
    (HD : Hid (DrawnT l lf lu)) (HN : Hid (N = lenAll l)) (hx : 0 ≤ x ∧ x ≤ N) (hy : 0 ≤ y ∧ y ≤ N) (HHI : Hid (high = hAt l (max x y)))
    (HB0 : Hid (Below w.heap.size w W)) (HH0 : Hid (Hold W b g cp l lf lu A' n')) :
    Code.wp Try.prog (dropSeq 15 B) (bodyPost Try.prog Try.f3 fun e w' => e = .returned (.bool true) ∧ Below w.heap.size w w') ⟨#[.slice A n c, .slice A' n' c', u2, u3, u4, .pointer (some ⟨b, 0, none⟩), .int .i64 N, u7, u8, u9, .int .i64 x, .int .i64 y, u12, u13, .int .i64 high, u15, u16, u17, u18, u19, u20, u21, u22, u23, u24, u25, u26, u27, u28, u29, u30, u31, u32, u33, u34, u35, u36, u37, u38, u39, u40, u41, u42, u43, u44, u45, u46, u47, u48, u49, u50, u51, u52, u53, u54, u55, u56, u57, u58, u59, u60, u61, u62, u63, u64, u65, u66, u67, u68, u69, u70, u71, u72, u73, u74, u75, u76, u77, u78, u79, u80, u81, u82, u83, u84, u85, u86, u87, u88, u89, u90, u91, u92, u93, u94, u95, u96, u97, u98, u99, u100, u101, u102, u103, u104, u105, u106, u107, u108, u109, u110, u111, u112, u113, u114, u115, u116, u117, u118, u119, u120, u121, u122, u123, u124, u125, u126, u127, u128, u129, u130, u131, u132, u133, u134, u135, u136, u137, u138, u139, u140, u141, u142, u143, u144, u145, u146, u147, u148, u149, u150, u151, u152, u153, u154, u155, u156, u157, u158, u159, u160, u161, u162, u163, u164, u165, u166, u167, u168, u169, u170, u171, u172, u173, u174, u175, u176, u177, u178, u179, u180, u181, u182, u183, u184, u185, u186, u187, u188, u189, u190, u191, u192, u193, u194, u195, u196, u197, u198, u199, u200, u201, u202, u203, u204, u205, u206, u207, u208, u209, u210, u211, u212, u213, u214, u215, u216, u217, u218, u219, u220, u221, u222, u223, u224, u225, u226, u227, u228, u229, u230, u231, u232, u233, u234, u235, u236, u237, u238, u239, u240, u241, u242, u243, u244, u245, u246, u247, u248, u249, u250, u251, u252, u253, u254, u255, u256, u257, u258, u259, u260, u261, u262, u263, u264, u265, u266, u267, u268, u269, u270, u271, u272, u273, u274, u275, u276, u277, u278, u279, u280, u281, u282, u283, u284, u285, u286, u287, u288, u289, u290, u291, u292, u293, u294, u295, u296, u297, u298, u299, u300, u301, u302, u303, u304, u305, u306, u307, u308, u309, u310, u311, u312, u313, u314, u315, u316, u317, u318, u319, u320, u321, u322, u323, u324, u325, u326, u327, u328, u329, u330, u331, u332, u333, u334, u335, u336, u337, u338, u339, u340, u341, u342, u343, u344, u345, u346, u347, u348, u349, u350, u351, u352, u353, u354, u355, u356, u357, u358, u359, u360, u361, u362, u363, u364, u365, u366, u367, u368, u369, u370, u371, u372, u373, u374, u375, u376, u377, u378, u379, u380, u381, u382, u383, u384, u385, u386, u387, u388, u389, u390, u391, u392, u393, u394, u395, u396, u397, u398, u399], []⟩ W := by
  have hN := HN.out
  have hlen := HD.out.len
  have hval := HD.out.valid
  have h5 := HD.out.good.1
  have htb := trackB_iff.2 hval
  have hll2 : l.length ≤ 1048576 := by omega
  obtain ⟨mx, hmx⟩ : ∃ mx, mx = max x y := ⟨_, rfl⟩
  have hmx1 : 0 ≤ mx ∧ mx ≤ N := by omega
  obtain ⟨pl, hpl⟩ : ∃ pl, pl = plcR l high := ⟨_, rfl⟩
  obtain ⟨AT, hAT⟩ : ∃ AT, AT = hAt l pl := ⟨_, rfl⟩
  obtain ⟨Q, hQ⟩ : ∃ Q, Q = vI (onB l lf lu (pl - 1)) (hAt l (pl - 1)) := ⟨_, rfl⟩
  obtain ⟨QC, hQC⟩ : ∃ QC, QC = onI l lf lu (pl - 1) := ⟨_, rfl⟩
  have hhi := HHI.out
  rw [← hmx] at hhi
  obtain ⟨p1, p2, p3, p4⟩ := place_facts hval.good (m := mx) (by omega)
  rw [← hhi, ← hpl] at p1 p2 p3 p4
  rw [← hAT] at p3
  have hhb := hAt_bds hval.good (x := mx) (by omega)
  have hh2 := height_le hval.good (x := mx) hmx1.1 hlen.2
  rw [← hhi] at hhb hh2
  have hno : ¬ hAt l (lenAll l) < high := by
    have := hAt_mono hval.good (show mx ≤ lenAll l by omega)
    rw [← hhi] at this
    omega
  obtain ⟨pc1, pc2⟩ := plc_ok htb (inB_iff.2 (show 0 ≤ high ∧ high ≤ 3000000 by omega)) hno
  obtain ⟨o1, o2⟩ := onB_yes (x := pl) hval (by omega)
  have KP : Hid (∀ W, Hold W b g cp l lf lu A' n' → Calls Try.prog 13 #[.agg #[.slice (some ⟨g, 0, none⟩) l.length cp, .int .i64 lf, .int .i64 lu], .int .i64 high] W fun e w' => e = .returned (.tuple #[.int .i64 pl, .int .i64 0]) ∧ Below W.heap.size W w') := fun W h => by
    have h1 := implPlaceAt_any (some ⟨g, 0, none⟩) l.length cp lf lu l high W h.secs hll2
    rw [pc1, pc2, ← hpl] at h1
    exact h1
  have KA : Hid (∀ W, Hold W b g cp l lf lu A' n' → Calls Try.prog 14 #[.agg #[.slice (some ⟨g, 0, none⟩) l.length cp, .int .i64 lf, .int .i64 lu], .int .i64 pl] W fun e w' => e = .returned (.tuple #[.int .i64 AT, .int .i64 0]) ∧ Below W.heap.size W w') := fun W h => by
    have h1 := specHeightAt_any (some ⟨g, 0, none⟩) l.length cp lf lu l pl W h.secs hll2
    rw [o1, o2, ← hAT] at h1
    exact h1
  have KB : Hid (∀ W, Hold W b g cp l lf lu A' n' → Calls Try.prog 14 #[.agg #[.slice (some ⟨g, 0, none⟩) l.length cp, .int .i64 lf, .int .i64 lu], .int .i64 (pl - 1)] W fun e w' => e = .returned (.tuple #[.int .i64 Q, .int .i64 QC]) ∧ Below W.heap.size W w') := fun W h => by
    have h1 := specHeightAt_any (some ⟨g, 0, none⟩) l.length cp lf lu l (pl - 1) W h.secs hll2
    rw [← hQ, ← hQC] at h1
    exact h1
  have HQ : Hid (QC = 0 → Q < high) := fun h => by
    have hq0 : 0 < pl := by
      rcases Int.lt_or_le 0 pl with h2 | h2
      · exact h2
      · exfalso
        have e0 : pl = 0 := by omega
        have hno : inB (pl - 1) 0 (lenAll l) = false := by rw [inB_not]; omega
        rw [hQC, onI_out htb hno] at h
        omega
    obtain ⟨e7, e8⟩ := onB_yes (x := pl - 1) hval (by omega)
    rw [hQ, e7]
    exact p4 hq0
  have hpl1 : ¬ pl < 0 := by omega
  have hpl2 : ¬ mx < pl := by omega
  have hpl3 : 0 ≤ pl ∧ pl ≤ 1095000 := by omega
  have hat1 : ¬ AT < high := by omega
  have hmx' := hmx.symm
  have HNm := Lib.hid hN
  obtain ⟨hpl4, hpl5⟩ := hpl3
  clear hN hlen hval h5 htb hll2 hmx hmx1 hpl hAT hQ hQC hhi p1 p2 p3 p4 hhb hh2 hno pc1 pc2 o1 o2
  obtain ⟨c0, c1, c2⟩ := (And.intro HH0.out.c0 (And.intro HH0.out.c1 HH0.out.c2))
  conv => arg 2; whnf
  refine wp_seq_k fun K hK => ?_
  go_wp2_with fail
  refine (KP.out _ HH0.out).mono ?_
  rintro e v1 ⟨rfl, hb⟩
  have HH1 := Lib.hid (HH0.out.below hb)
  have HB1 := Lib.hid (HB0.out.trans (hb.mono HB0.out.size))
  clear hb c0 c1 c2 HH0 HB0
  obtain ⟨c0, c1, c2⟩ := (And.intro HH1.out.c0 (And.intro HH1.out.c1 HH1.out.c2))
  go_wp2_with fail
  refine (KA.out _ HH1.out).mono ?_
  rintro e v2 ⟨rfl, hb⟩
  have HH2 := Lib.hid (HH1.out.below hb)
  have HB2 := Lib.hid (HB1.out.trans (hb.mono HB1.out.size))
  clear hb c0 c1 c2 HH1 HB1
  obtain ⟨c0, c1, c2⟩ := (And.intro HH2.out.c0 (And.intro HH2.out.c1 HH2.out.c2))
  go_wp2_with fail
  refine (KB.out _ HH2.out).mono ?_
  rintro e v3 ⟨rfl, hb⟩
  have HH3 := Lib.hid (HH2.out.below hb)
  have HB3 := Lib.hid (HB2.out.trans (hb.mono HB2.out.size))
  clear hb c0 c1 c2 HH2 HB2
  obtain ⟨c0, c1, c2⟩ := (And.intro HH3.out.c0 (And.intro HH3.out.c1 HH3.out.c2))
  go_upto_region 24 with fail
  rename_i K20 hK20 Kc hKc
  have HK : ∀ (u2 u3 u4 u7 u8 u9 u12 u13 u14 u15 u16 u17 u18 u19 u20 u21 u22 u23 u24 u25 u26 u27 u28 u29 u30 u31 u32 u33 u34 u35 u36 u37 u38 u39 u40 u41 u42 u43 u44 u45 u46 u47 u48 u49 u50 u51 u52 u53 u54 u55 u56 u57 u58 u59 u60 u61 u62 u63 u64 u65 u66 u67 u68 u69 u70 u71 u72 u73 u74 u75 u76 u77 u78 u79 u80 u81 u82 u83 u84 u85 u86 u87 u88 u89 u90 u91 u92 u93 u94 u95 u96 u97 u98 u99 u100 u101 u102 u103 u104 u105 u106 u107 u108 u109 u110 u111 u112 u113 u114 u115 u116 u117 u118 u119 u120 u121 u122 u123 u124 u125 u126 u127 u128 u129 u130 u131 u132 u133 u134 u135 u136 u137 u138 u139 u140 u141 u142 u143 u144 u145 u146 u147 u148 u149 u150 u151 u152 u153 u154 u155 u156 u157 u158 u159 u160 u161 u162 u163 u164 u165 u166 u167 u168 u169 u170 u171 u172 u173 u174 u175 u176 u177 u178 u179 u180 u181 u182 u183 u184 u185 u186 u187 u188 u189 u190 u191 u192 u193 u194 u195 u196 u197 u198 u199 u200 u201 u202 u203 u204 u205 u206 u207 u208 u209 u210 u211 u212 u213 u214 u215 u216 u217 u218 u219 u220 u221 u222 u223 u224 u225 u226 u227 u228 u229 u230 u231 u232 u233 u234 u235 u236 u237 u238 u239 u240 u241 u242 u243 u244 u245 u246 u247 u248 u249 u250 u251 u252 u253 u254 u255 u256 u257 u258 u259 u260 u261 u262 u263 u264 u265 u266 u267 u268 u269 u270 u271 u272 u273 u274 u275 u276 u277 u278 u279 u280 u281 u282 u283 u284 u285 u286 u287 u288 u289 u290 u291 u292 u293 u294 u295 u296 u297 u298 u299 u300 u301 u302 u303 u304 u305 u306 u307 u308 u309 u310 u311 u312 u313 u314 u315 u316 u317 u318 u319 u320 u321 u322 u323 u324 u325 u326 u327 u328 u329 u330 u331 u332 u333 u334 u335 u336 u337 u338 u339 u340 u341 u342 u343 u344 u345 u346 u347 u348 u349 u350 u351 u352 u353 u354 u355 u356 u357 u358 u359 u360 u361 u362 u363 u364 u365 u366 u367 u368 u369 u370 u371 u372 u373 u374 u375 u376 u377 u378 u379 u380 u381 u382 u383 u384 u385 u386 u387 u388 u389 u390 u391 u392 u393 u394 u395 u396 u397 u398 u399 : Value), K20 ⟨#[.slice A n c, .slice A' n' c', u2, u3, u4, .pointer (some ⟨b, 0, none⟩), .int .i64 N, u7, u8, u9, .int .i64 x, .int .i64 y, u12, u13, u14, u15, u16, u17, u18, u19, u20, u21, u22, u23, u24, u25, u26, u27, u28, u29, u30, u31, u32, u33, u34, u35, u36, u37, u38, u39, u40, u41, u42, u43, u44, u45, u46, u47, u48, u49, u50, u51, u52, u53, u54, u55, u56, u57, u58, u59, u60, u61, u62, u63, u64, u65, u66, u67, u68, u69, u70, u71, u72, u73, u74, u75, u76, u77, u78, u79, u80, u81, u82, u83, u84, u85, u86, u87, u88, u89, u90, u91, u92, u93, u94, u95, u96, u97, u98, u99, u100, u101, u102, u103, u104, u105, u106, u107, u108, u109, u110, u111, u112, u113, u114, u115, u116, u117, u118, u119, u120, u121, u122, u123, u124, u125, u126, u127, u128, u129, u130, u131, u132, u133, u134, u135, u136, u137, u138, u139, u140, u141, u142, u143, u144, u145, u146, u147, u148, u149, u150, u151, u152, u153, u154, u155, u156, u157, u158, u159, u160, u161, u162, u163, u164, u165, u166, u167, u168, u169, u170, u171, u172, u173, u174, u175, u176, u177, u178, u179, u180, u181, u182, u183, u184, u185, u186, u187, u188, u189, u190, u191, u192, u193, u194, u195, u196, u197, u198, u199, u200, u201, u202, u203, u204, u205, u206, u207, u208, u209, u210, u211, u212, u213, u214, u215, u216, u217, u218, u219, u220, u221, u222, u223, u224, u225, u226, u227, u228, u229, u230, u231, u232, u233, u234, u235, u236, u237, u238, u239, u240, u241, u242, u243, u244, u245, u246, u247, u248, u249, u250, u251, u252, u253, u254, u255, u256, u257, u258, u259, u260, u261, u262, u263, u264, u265, u266, u267, u268, u269, u270, u271, u272, u273, u274, u275, u276, u277, u278, u279, u280, u281, u282, u283, u284, u285, u286, u287, u288, u289, u290, u291, u292, u293, u294, u295, u296, u297, u298, u299, u300, u301, u302, u303, u304, u305, u306, u307, u308, u309, u310, u311, u312, u313, u314, u315, u316, u317, u318, u319, u320, u321, u322, u323, u324, u325, u326, u327, u328, u329, u330, u331, u332, u333, u334, u335, u336, u337, u338, u339, u340, u341, u342, u343, u344, u345, u346, u347, u348, u349, u350, u351, u352, u353, u354, u355, u356, u357, u358, u359, u360, u361, u362, u363, u364, u365, u366, u367, u368, u369, u370, u371, u372, u373, u374, u375, u376, u377, u378, u379, u380, u381, u382, u383, u384, u385, u386, u387, u388, u389, u390, u391, u392, u393, u394, u395, u396, u397, u398, u399], []⟩ v3 := fun u2 u3 u4 u7 u8 u9 u12 u13 u14 u15 u16 u17 u18 u19 u20 u21 u22 u23 u24 u25 u26 u27 u28 u29 u30 u31 u32 u33 u34 u35 u36 u37 u38 u39 u40 u41 u42 u43 u44 u45 u46 u47 u48 u49 u50 u51 u52 u53 u54 u55 u56 u57 u58 u59 u60 u61 u62 u63 u64 u65 u66 u67 u68 u69 u70 u71 u72 u73 u74 u75 u76 u77 u78 u79 u80 u81 u82 u83 u84 u85 u86 u87 u88 u89 u90 u91 u92 u93 u94 u95 u96 u97 u98 u99 u100 u101 u102 u103 u104 u105 u106 u107 u108 u109 u110 u111 u112 u113 u114 u115 u116 u117 u118 u119 u120 u121 u122 u123 u124 u125 u126 u127 u128 u129 u130 u131 u132 u133 u134 u135 u136 u137 u138 u139 u140 u141 u142 u143 u144 u145 u146 u147 u148 u149 u150 u151 u152 u153 u154 u155 u156 u157 u158 u159 u160 u161 u162 u163 u164 u165 u166 u167 u168 u169 u170 u171 u172 u173 u174 u175 u176 u177 u178 u179 u180 u181 u182 u183 u184 u185 u186 u187 u188 u189 u190 u191 u192 u193 u194 u195 u196 u197 u198 u199 u200 u201 u202 u203 u204 u205 u206 u207 u208 u209 u210 u211 u212 u213 u214 u215 u216 u217 u218 u219 u220 u221 u222 u223 u224 u225 u226 u227 u228 u229 u230 u231 u232 u233 u234 u235 u236 u237 u238 u239 u240 u241 u242 u243 u244 u245 u246 u247 u248 u249 u250 u251 u252 u253 u254 u255 u256 u257 u258 u259 u260 u261 u262 u263 u264 u265 u266 u267 u268 u269 u270 u271 u272 u273 u274 u275 u276 u277 u278 u279 u280 u281 u282 u283 u284 u285 u286 u287 u288 u289 u290 u291 u292 u293 u294 u295 u296 u297 u298 u299 u300 u301 u302 u303 u304 u305 u306 u307 u308 u309 u310 u311 u312 u313 u314 u315 u316 u317 u318 u319 u320 u321 u322 u323 u324 u325 u326 u327 u328 u329 u330 u331 u332 u333 u334 u335 u336 u337 u338 u339 u340 u341 u342 u343 u344 u345 u346 u347 u348 u349 u350 u351 u352 u353 u354 u355 u356 u357 u358 u359 u360 u361 u362 u363 u364 u365 u366 u367 u368 u369 u370 u371 u372 u373 u374 u375 u376 u377 u378 u379 u380 u381 u382 u383 u384 u385 u386 u387 u388 u389 u390 u391 u392 u393 u394 u395 u396 u397 u398 u399 => hK20 _ _ (tail20 u2 u3 u4 u7 u8 u9 u12 u13 u14 u15 u16 u17 u18 u19 u20 u21 u22 u23 u24 u25 u26 u27 u28 u29 u30 u31 u32 u33 u34 u35 u36 u37 u38 u39 u40 u41 u42 u43 u44 u45 u46 u47 u48 u49 u50 u51 u52 u53 u54 u55 u56 u57 u58 u59 u60 u61 u62 u63 u64 u65 u66 u67 u68 u69 u70 u71 u72 u73 u74 u75 u76 u77 u78 u79 u80 u81 u82 u83 u84 u85 u86 u87 u88 u89 u90 u91 u92 u93 u94 u95 u96 u97 u98 u99 u100 u101 u102 u103 u104 u105 u106 u107 u108 u109 u110 u111 u112 u113 u114 u115 u116 u117 u118 u119 u120 u121 u122 u123 u124 u125 u126 u127 u128 u129 u130 u131 u132 u133 u134 u135 u136 u137 u138 u139 u140 u141 u142 u143 u144 u145 u146 u147 u148 u149 u150 u151 u152 u153 u154 u155 u156 u157 u158 u159 u160 u161 u162 u163 u164 u165 u166 u167 u168 u169 u170 u171 u172 u173 u174 u175 u176 u177 u178 u179 u180 u181 u182 u183 u184 u185 u186 u187 u188 u189 u190 u191 u192 u193 u194 u195 u196 u197 u198 u199 u200 u201 u202 u203 u204 u205 u206 u207 u208 u209 u210 u211 u212 u213 u214 u215 u216 u217 u218 u219 u220 u221 u222 u223 u224 u225 u226 u227 u228 u229 u230 u231 u232 u233 u234 u235 u236 u237 u238 u239 u240 u241 u242 u243 u244 u245 u246 u247 u248 u249 u250 u251 u252 u253 u254 u255 u256 u257 u258 u259 u260 u261 u262 u263 u264 u265 u266 u267 u268 u269 u270 u271 u272 u273 u274 u275 u276 u277 u278 u279 u280 u281 u282 u283 u284 u285 u286 u287 u288 u289 u290 u291 u292 u293 u294 u295 u296 u297 u298 u299 u300 u301 u302 u303 u304 u305 u306 u307 u308 u309 u310 u311 u312 u313 u314 u315 u316 u317 u318 u319 u320 u321 u322 u323 u324 u325 u326 u327 u328 u329 u330 u331 u332 u333 u334 u335 u336 u337 u338 u339 u340 u341 u342 u343 u344 u345 u346 u347 u348 u349 u350 u351 u352 u353 u354 u355 u356 u357 u358 u359 u360 u361 u362 u363 u364 u365 u366 u367 u368 u369 u370 u371 u372 u373 u374 u375 u376 u377 u378 u379 u380 u381 u382 u383 u384 u385 u386 u387 u388 u389 u390 u391 u392 u393 u394 u395 u396 u397 u398 u399 A A' n n' c c' b N x y lf lu w v3 (some ⟨g, 0, none⟩) cp l HD HN hx hy HB3 ⟨HH3.out.lt, HH3.out.c0, HH3.out.c1, HH3.out.c2⟩ HH3.out.secs)
  clear hK20
  by_cases hq : QC = 0
  · have hq1 := HQ.out hq
    have hnq : ¬ high ≤ Q := by omega
    subst hq
    go_wp2_with fail
    exact HK _ _ _ _ _ _ _ _ _ _ _ _ _ _ _ _ _ _ _ _ _ _ _ _ _ _ _ _ _ _ _ _ _ _ _ _ _ _ _ _ _ _ _ _ _ _ _ _ _ _ _ _ _ _ _ _ _ _ _ _ _ _ _ _ _ _ _ _ _ _ _ _ _ _ _ _ _ _ _ _ _ _ _ _ _ _ _ _ _ _ _ _ _ _ _ _ _ _ _ _ _ _ _ _ _ _ _ _ _ _ _ _ _ _ _ _ _ _ _ _ _ _ _ _ _ _ _ _ _ _ _ _ _ _ _ _ _ _ _ _ _ _ _ _ _ _ _ _ _ _ _ _ _ _ _ _ _ _ _ _ _ _ _ _ _ _ _ _ _ _ _ _ _ _ _ _ _ _ _ _ _ _ _ _ _ _ _ _ _ _ _ _ _ _ _ _ _ _ _ _ _ _ _ _ _ _ _ _ _ _ _ _ _ _ _ _ _ _ _ _ _ _ _ _ _ _ _ _ _ _ _ _ _ _ _ _ _ _ _ _ _ _ _ _ _ _ _ _ _ _ _ _ _ _ _ _ _ _ _ _ _ _ _ _ _ _ _ _ _ _ _ _ _ _ _ _ _ _ _ _ _ _ _ _ _ _ _ _ _ _ _ _ _ _ _ _ _ _ _ _ _ _ _ _ _ _ _ _ _ _ _ _ _ _ _ _ _ _ _ _ _ _ _ _ _ _ _ _ _ _ _ _ _ _ _ _ _ _ _ _ _ _ _ _ _ _ _ _ _ _ _ _ _ _ _ _ _ _ _ _ _ _ _ _ _ _ _ _ _ _ _ _ _ _ _ _ _ _ _ _ _ _ _ _ _ _ _ _ _ _ _ _ _ _
  · have hq2 : (QC == 0) = false := by rw [beq_eq_false_iff_ne]; exact hq
    clear hq
    go_wp2_with fail
    exact HK _ _ _ _ _ _ _ _ _ _ _ _ _ _ _ _ _ _ _ _ _ _ _ _ _ _ _ _ _ _ _ _ _ _ _ _ _ _ _ _ _ _ _ _ _ _ _ _ _ _ _ _ _ _ _ _ _ _ _ _ _ _ _ _ _ _ _ _ _ _ _ _ _ _ _ _ _ _ _ _ _ _ _ _ _ _ _ _ _ _ _ _ _ _ _ _ _ _ _ _ _ _ _ _ _ _ _ _ _ _ _ _ _ _ _ _ _ _ _ _ _ _ _ _ _ _ _ _ _ _ _ _ _ _ _ _ _ _ _ _ _ _ _ _ _ _ _ _ _ _ _ _ _ _ _ _ _ _ _ _ _ _ _ _ _ _ _ _ _ _ _ _ _ _ _ _ _ _ _ _ _ _ _ _ _ _ _ _ _ _ _ _ _ _ _ _ _ _ _ _ _ _ _ _ _ _ _ _ _ _ _ _ _ _ _ _ _ _ _ _ _ _ _ _ _ _ _ _ _ _ _ _ _ _ _ _ _ _ _ _ _ _ _ _ _ _ _ _ _ _ _ _ _ _ _ _ _ _ _ _ _ _ _ _ _ _ _ _ _ _ _ _ _ _ _ _ _ _ _ _ _ _ _ _ _ _ _ _ _ _ _ _ _ _ _ _ _ _ _ _ _ _ _ _ _ _ _ _ _ _ _ _ _ _ _ _ _ _ _ _ _ _ _ _ _ _ _ _ _ _ _ _ _ _ _ _ _ _ _ _ _ _ _ _ _ _ _ _ _ _ _ _ _ _ _ _ _ _ _ _ _ _ _ _ _ _ _ _ _ _ _ _ _ _ _ _ _ _ _ _ _ _ _ _ _ _ _ _ _ _ _ _ _ _
end Go.Proofs.Ytcpppiafjlgimaa.TraY
