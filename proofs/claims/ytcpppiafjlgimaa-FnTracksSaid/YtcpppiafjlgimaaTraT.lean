/- The last part of the walk of the law on tracks. -/
import Derived.Test.YtcpppiafjlgimaaTraA
import Derived.Test.YtcpppiafjlgimaaTraP
import Derived.Test.YtcpppiafjlgimaaTrkY
import Derived.Test.YtcpppiafjlgimaaTrkO
import Derived.Test.YtcpppiafjlgimaaTrkI
import Derived.Test.YtcpppiafjlgimaaTrkG
import Derived.Deep.DeepCutAuto
namespace Go.Proofs.Ytcpppiafjlgimaa.TraT
set_option maxRecDepth 100000
open Go.Proofs.Ytcpppiafjlgimaa.TraA Go.RowKit Go.Proofs.Ytcpppiafjlgimaa.Plain Go.Proofs.Ytcpppiafjlgimaa.TrkP Go.Proofs.Ytcpppiafjlgimaa.WalkA Go.Proofs.Ytcpppiafjlgimaa.TrkA Go.Proofs.Ytcpppiafjlgimaa.TrkC Go.Proofs.Ytcpppiafjlgimaa.TrkD Go.Proofs.Ytcpppiafjlgimaa.TrkE Go.Proofs.Ytcpppiafjlgimaa.TrkF Go.Proofs.Ytcpppiafjlgimaa.TrkG Go.Proofs.Ytcpppiafjlgimaa.TrkH Go.Proofs.Ytcpppiafjlgimaa.TrkI Go.Proofs.Ytcpppiafjlgimaa.TrkJ Go.Proofs.Ytcpppiafjlgimaa.TrkO Go.Proofs.Ytcpppiafjlgimaa.TrkS Go.Proofs.Ytcpppiafjlgimaa.TrkT Go.Proofs.Ytcpppiafjlgimaa.TrkV Go.Proofs.Ytcpppiafjlgimaa.TrkY0 Go.Proofs.Ytcpppiafjlgimaa.TrkY Go.Proofs.Ytcpppiafjlgimaa.SrcT Go.Proofs.Ytcpppiafjlgimaa.TraP
open Go.Proofs.Ytcpppiafjlgimaa.SrcA (Bys Some64 r8Long_any r8At_any r8Wide_any)


/-- A track's box. -/
structure Cel (W : World) (b : Nat) (v : Value) (lf lu : Int) : Prop where
  lt : b < W.heap.size
  c0 : W.cell? ⟨b, 0, none⟩ = some v
  c1 : W.cell? ⟨b, 1, none⟩ = some (.int .i64 lf)
  c2 : W.cell? ⟨b, 2, none⟩ = some (.int .i64 lu)
theorem Cel.below {W W' : World} {b : Nat} {v : Value} {lf lu : Int} (h : Cel W b v lf lu) (hb : Below W.heap.size W W') : Cel W' b v lf lu :=
  ⟨Nat.lt_of_lt_of_le h.lt hb.size, (hb.cell (p := ⟨b, 0, none⟩) h.lt).trans h.c0, (hb.cell (p := ⟨b, 1, none⟩) h.lt).trans h.c1, (hb.cell (p := ⟨b, 2, none⟩) h.lt).trans h.c2⟩
structure Four (W : World) (b bc bj bt : Nat) (v v2 v3 v4 : Value) (lf lu lf3 lu3 N : Int) : Prop where
  t : Cel W b v lf lu
  c : Cel W bc v2 lf lu
  j : Cel W bj v3 lf3 lu3
  u : Cel W bt v4 (N - lu) (N - lf)
theorem Four.below {W W' : World} {b bc bj bt : Nat} {v v2 v3 v4 : Value} {lf lu lf3 lu3 N : Int} (h : Four W b bc bj bt v v2 v3 v4 lf lu lf3 lu3 N) (hb : Below W.heap.size W W') : Four W' b bc bj bt v v2 v3 v4 lf lu lf3 lu3 N :=
  ⟨h.t.below hb, h.c.below hb, h.j.below hb, h.u.below hb⟩
theorem Four.all {W : World} {b bc bj bt : Nat} {v v2 v3 v4 : Value} {lf lu lf3 lu3 N : Int} (h : Four W b bc bj bt v v2 v3 v4 lf lu lf3 lu3 N) :
    W.cell? ⟨b, 0, none⟩ = some v ∧ W.cell? ⟨b, 1, none⟩ = some (.int .i64 lf) ∧ W.cell? ⟨b, 2, none⟩ = some (.int .i64 lu) ∧ W.cell? ⟨bc, 0, none⟩ = some v2 ∧ W.cell? ⟨bc, 1, none⟩ = some (.int .i64 lf) ∧ W.cell? ⟨bc, 2, none⟩ = some (.int .i64 lu) ∧
    W.cell? ⟨bj, 0, none⟩ = some v3 ∧ W.cell? ⟨bj, 1, none⟩ = some (.int .i64 lf3) ∧ W.cell? ⟨bj, 2, none⟩ = some (.int .i64 lu3) ∧ W.cell? ⟨bt, 1, none⟩ = some (.int .i64 (N - lu)) ∧ W.cell? ⟨bt, 2, none⟩ = some (.int .i64 (N - lf)) :=
  ⟨h.t.c0, h.t.c1, h.t.c2, h.c.c0, h.c.c1, h.c.c2, h.j.c0, h.j.c1, h.j.c2, h.u.c1, h.u.c2⟩
set_option maxRecDepth 1000000 in
set_option maxHeartbeats 4000000 in
theorem tail27 (u2 u3 u4 u7 u8 u9 u10 u12 u13 u14 u15 u16 u17 u18 u19 u20 u21 u22 u23 u24 u25 u26 u27 u29 u31 u33 u34 u35 u36 u37 u38 u39 u40 u41 u42 u43 u44 u45 u46 u47 u48 u49 u50 u51 u52 u53 u54 u55 u56 u57 u58 u59 u60 u61 u62 u63 u64 u65 u66 u67 u68 u69 u70 u71 u72 u73 u74 u75 u76 u77 u78 u79 u80 u81 u82 u83 u84 u85 u86 u87 u88 u89 u90 u91 u92 u93 u94 u95 u96 u97 u98 u99 u100 u101 u102 u103 u104 u105 u106 u107 u108 u109 u110 u111 u112 u113 u114 u115 u116 u117 u118 u119 u120 u121 u122 u123 u124 u125 u126 u127 u128 u129 u130 u131 u132 u133 u134 u135 u136 u137 u138 u139 u140 u141 u142 u143 u144 u145 u146 u147 u148 u149 u150 u151 u152 u153 u154 u155 u156 u157 u158 u159 u160 u161 u162 u163 u164 u165 u166 u167 u168 u169 u170 u171 u172 u173 u174 u175 u176 u177 u178 u179 u180 u181 u182 u183 u184 u185 u186 u187 u188 u189 u190 u191 u192 u193 u194 u195 u196 u197 u198 u199 u200 u201 u202 u203 u204 u205 u206 u207 u208 u209 u210 u211 u212 u213 u214 u215 u216 u217 u218 u219 u220 u221 u222 u223 u224 u225 u226 u227 u228 u229 u230 u231 u232 u233 u234 u235 u236 u237 u238 u239 u240 u241 u242 u243 u244 u245 u246 u247 u248 u249 u250 u251 u252 u253 u254 u255 u256 u257 u258 u259 u260 u261 u262 u263 u264 u265 u266 u267 u268 u269 u270 u271 u272 u273 u274 u275 u276 u277 u278 u279 u280 u281 u282 u283 u284 u285 u286 u287 u288 u289 u290 u291 u292 u293 u294 u295 u296 u297 u298 u299 u300 u301 u302 u303 u304 u305 u306 u307 u308 u309 u310 u311 u312 u313 u314 u315 u316 u317 u318 u319 u320 u321 u322 u323 u324 u325 u326 u327 u328 u329 u330 u331 u332 u333 u334 u335 u336 u337 u338 u339 u340 u341 u342 u343 u344 u345 u346 u347 u348 u349 u350 u351 u352 u353 u354 u355 u356 u357 u358 u359 u360 u361 u362 u363 u364 u365 u366 u367 u368 u369 u370 u371 u372 u373 u374 u375 u376 u377 u378 u379 u380 u381 u382 u383 u384 u385 u386 u387 u388 u389 u390 u391 u392 u393 u394 u395 u396 u397 u398 u399 : Value) (A A' : Option Addr) (n n' c c' b bc bj bt : Nat) (v v2 v3 v4 : Value) (N y hv lf lu lf3 lu3 : Int) (w w0 W : World) (HW0 : Hid (Below w.heap.size w w0))
    (hN : 0 ≤ N ∧ N ≤ 1095000) (hlf : 0 ≤ lf ∧ lf ≤ 1095000) (hlu : 0 ≤ lu ∧ lu ≤ 1095000) (HB0 : Hid (Below w0.heap.size w0 W)) (HF0 : Hid (Four W b bc bj bt v v2 v3 v4 lf lu lf3 lu3 N))
    (HC : Hid (∀ W', Below w0.heap.size w0 W' → Four W' b bc bj bt v v2 v3 v4 lf lu lf3 lu3 N → Calls Try.prog 14 #[.agg #[v2, .int .i64 lf, .int .i64 lu], .int .i64 y] W' fun e w' => e = .returned (.tuple #[.int .i64 hv, .int .i64 0]) ∧ Below W'.heap.size W' w'))
    (HJ : Hid (∀ W', Below w0.heap.size w0 W' → Four W' b bc bj bt v v2 v3 v4 lf lu lf3 lu3 N → Calls Try.prog 14 #[.agg #[v3, .int .i64 lf3, .int .i64 lu3], .int .i64 y] W' fun e w' => e = .returned (.tuple #[.int .i64 hv, .int .i64 0]) ∧ Below W'.heap.size W' w'))
    (HO : Hid (∀ W', Below w0.heap.size w0 W' → Four W' b bc bj bt v v2 v3 v4 lf lu lf3 lu3 N → Calls Try.prog 14 #[.agg #[v, .int .i64 lf, .int .i64 lu], .int .i64 y] W' fun e w' => e = .returned (.tuple #[.int .i64 hv, .int .i64 0]) ∧ Below W'.heap.size W' w')) :
    Code.wp Try.prog (dropSeq 27 B) (bodyPost Try.prog Try.f3 fun e w' => e = .returned (.bool true) ∧ Below w.heap.size w w') ⟨#[.slice A n c, .slice A' n' c', u2, u3, u4, .pointer (some ⟨b, 0, none⟩), .int .i64 N, u7, u8, u9, u10, .int .i64 y, u12, u13, u14, u15, u16, u17, u18, u19, u20, u21, u22, u23, u24, u25, u26, u27, .pointer (some ⟨bc, 0, none⟩), u29, .pointer (some ⟨bj, 0, none⟩), u31, .pointer (some ⟨bt, 0, none⟩), u33, u34, u35, u36, u37, u38, u39, u40, u41, u42, u43, u44, u45, u46, u47, u48, u49, u50, u51, u52, u53, u54, u55, u56, u57, u58, u59, u60, u61, u62, u63, u64, u65, u66, u67, u68, u69, u70, u71, u72, u73, u74, u75, u76, u77, u78, u79, u80, u81, u82, u83, u84, u85, u86, u87, u88, u89, u90, u91, u92, u93, u94, u95, u96, u97, u98, u99, u100, u101, u102, u103, u104, u105, u106, u107, u108, u109, u110, u111, u112, u113, u114, u115, u116, u117, u118, u119, u120, u121, u122, u123, u124, u125, u126, u127, u128, u129, u130, u131, u132, u133, u134, u135, u136, u137, u138, u139, u140, u141, u142, u143, u144, u145, u146, u147, u148, u149, u150, u151, u152, u153, u154, u155, u156, u157, u158, u159, u160, u161, u162, u163, u164, u165, u166, u167, u168, u169, u170, u171, u172, u173, u174, u175, u176, u177, u178, u179, u180, u181, u182, u183, u184, u185, u186, u187, u188, u189, u190, u191, u192, u193, u194, u195, u196, u197, u198, u199, u200, u201, u202, u203, u204, u205, u206, u207, u208, u209, u210, u211, u212, u213, u214, u215, u216, u217, u218, u219, u220, u221, u222, u223, u224, u225, u226, u227, u228, u229, u230, u231, u232, u233, u234, u235, u236, u237, u238, u239, u240, u241, u242, u243, u244, u245, u246, u247, u248, u249, u250, u251, u252, u253, u254, u255, u256, u257, u258, u259, u260, u261, u262, u263, u264, u265, u266, u267, u268, u269, u270, u271, u272, u273, u274, u275, u276, u277, u278, u279, u280, u281, u282, u283, u284, u285, u286, u287, u288, u289, u290, u291, u292, u293, u294, u295, u296, u297, u298, u299, u300, u301, u302, u303, u304, u305, u306, u307, u308, u309, u310, u311, u312, u313, u314, u315, u316, u317, u318, u319, u320, u321, u322, u323, u324, u325, u326, u327, u328, u329, u330, u331, u332, u333, u334, u335, u336, u337, u338, u339, u340, u341, u342, u343, u344, u345, u346, u347, u348, u349, u350, u351, u352, u353, u354, u355, u356, u357, u358, u359, u360, u361, u362, u363, u364, u365, u366, u367, u368, u369, u370, u371, u372, u373, u374, u375, u376, u377, u378, u379, u380, u381, u382, u383, u384, u385, u386, u387, u388, u389, u390, u391, u392, u393, u394, u395, u396, u397, u398, u399], []⟩ W := by
  obtain ⟨t0, t1, t2, c0, c1, c2, j0, j1, j2, r1, r2⟩ := HF0.out.all
  obtain ⟨n0, n1⟩ := hN
  obtain ⟨f0, f1⟩ := hlf
  obtain ⟨g0, g1⟩ := hlu
  conv => arg 2; whnf
  go_wp2_with fail
  refine (HC.out _ HB0.out HF0.out).mono ?_
  rintro e V1 ⟨rfl, hb⟩
  have HF1 := Lib.hid (HF0.out.below hb)
  have HB1 := Lib.hid (HB0.out.trans (hb.mono HB0.out.size))
  clear hb t0 t1 t2 c0 c1 c2 j0 j1 j2 r1 r2
  obtain ⟨t0, t1, t2, c0, c1, c2, j0, j1, j2, r1, r2⟩ := HF1.out.all
  go_wp2_with fail
  refine (HJ.out _ HB1.out HF1.out).mono ?_
  rintro e V2 ⟨rfl, hb⟩
  have HF2 := Lib.hid (HF1.out.below hb)
  have HB2 := Lib.hid (HB1.out.trans (hb.mono HB1.out.size))
  clear hb t0 t1 t2 c0 c1 c2 j0 j1 j2 r1 r2
  obtain ⟨t0, t1, t2, c0, c1, c2, j0, j1, j2, r1, r2⟩ := HF2.out.all
  go_wp2_with fail
  refine (HO.out _ HB2.out HF2.out).mono ?_
  rintro e V3 ⟨rfl, hb⟩
  have HF3 := Lib.hid (HF2.out.below hb)
  have HB3 := Lib.hid (HB2.out.trans (hb.mono HB2.out.size))
  clear hb t0 t1 t2 c0 c1 c2 j0 j1 j2 r1 r2
  obtain ⟨t0, t1, t2, c0, c1, c2, j0, j1, j2, r1, r2⟩ := HF3.out.all
  go_wp2_with fail
  go_ret
  exact ⟨rfl, HW0.out.trans (HB3.out.mono HW0.out.size)⟩
end Go.Proofs.Ytcpppiafjlgimaa.TraT
