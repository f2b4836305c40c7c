/- The cut, the joined and the turned track in the law on tracks. -/
import Derived.Test.YtcpppiafjlgimaaTraV
import Derived.Test.YtcpppiafjlgimaaTraW
import Derived.Test.YtcpppiafjlgimaaTraU
import Derived.Test.YtcpppiafjlgimaaTraT
import Derived.Test.YtcpppiafjlgimaaTraA
import Derived.Test.YtcpppiafjlgimaaTraP
import Derived.Test.YtcpppiafjlgimaaTrkY
import Derived.Test.YtcpppiafjlgimaaTrkO
import Derived.Test.YtcpppiafjlgimaaTrkI
import Derived.Test.YtcpppiafjlgimaaTrkG
import Derived.Deep.DeepCutAuto
namespace Go.Proofs.Ytcpppiafjlgimaa.TraX
set_option maxRecDepth 100000
open Go.Proofs.Ytcpppiafjlgimaa.TraW Go.Proofs.Ytcpppiafjlgimaa.TraV Go.Proofs.Ytcpppiafjlgimaa.TraU Go.Proofs.Ytcpppiafjlgimaa.TraT Go.Proofs.Ytcpppiafjlgimaa.TraA Go.RowKit Go.Proofs.Ytcpppiafjlgimaa.Plain Go.Proofs.Ytcpppiafjlgimaa.TrkP Go.Proofs.Ytcpppiafjlgimaa.WalkA Go.Proofs.Ytcpppiafjlgimaa.TrkA Go.Proofs.Ytcpppiafjlgimaa.TrkC Go.Proofs.Ytcpppiafjlgimaa.TrkD Go.Proofs.Ytcpppiafjlgimaa.TrkE Go.Proofs.Ytcpppiafjlgimaa.TrkF Go.Proofs.Ytcpppiafjlgimaa.TrkG Go.Proofs.Ytcpppiafjlgimaa.TrkH Go.Proofs.Ytcpppiafjlgimaa.TrkI Go.Proofs.Ytcpppiafjlgimaa.TrkJ Go.Proofs.Ytcpppiafjlgimaa.TrkO Go.Proofs.Ytcpppiafjlgimaa.TrkS Go.Proofs.Ytcpppiafjlgimaa.TrkT Go.Proofs.Ytcpppiafjlgimaa.TrkV Go.Proofs.Ytcpppiafjlgimaa.TrkY0 Go.Proofs.Ytcpppiafjlgimaa.TrkY Go.Proofs.Ytcpppiafjlgimaa.SrcT Go.Proofs.Ytcpppiafjlgimaa.TraP
open Go.Proofs.Ytcpppiafjlgimaa.SrcA (Bys Some64 r8Long_any r8At_any r8Wide_any)





theorem Cel.all3 {W : World} {b : Nat} {v : Value} {lf lu : Int} (h : Cel W b v lf lu) : W.cell? ⟨b, 0, none⟩ = some v ∧ W.cell? ⟨b, 1, none⟩ = some (.int .i64 lf) ∧ W.cell? ⟨b, 2, none⟩ = some (.int .i64 lu) := ⟨h.c0, h.c1, h.c2⟩
theorem Cel.new (w : World) (v : Value) (lf lu : Int) : Cel (w.alloc (.cells #[v, .int .i64 lf, .int .i64 lu] 26)) w.heap.size v lf lu ∧ Below w.heap.size w (w.alloc (.cells #[v, .int .i64 lf, .int .i64 lu] 26)) := by
  obtain ⟨q0, q1, q2, q3, q4⟩ := boxed w 26 v (.int .i64 lf) (.int .i64 lu)
  exact ⟨⟨by omega, q0, q1, q2⟩, q3⟩
set_option maxRecDepth 1000000 in
set_option maxHeartbeats 8000000 in
theorem tail20 (u2 u3 u4 u7 u8 u9 u12 u13 u14 u15 u16 u17 u18 u19 u20 u21 u22 u23 u24 u25 u26 u27 u28 u29 u30 u31 u32 u33 u34 u35 u36 u37 u38 u39 u40 u41 u42 u43 u44 u45 u46 u47 u48 u49 u50 u51 u52 u53 u54 u55 u56 u57 u58 u59 u60 u61 u62 u63 u64 u65 u66 u67 u68 u69 u70 u71 u72 u73 u74 u75 u76 u77 u78 u79 u80 u81 u82 u83 u84 u85 u86 u87 u88 u89 u90 u91 u92 u93 u94 u95 u96 u97 u98 u99 u100 u101 u102 u103 u104 u105 u106 u107 u108 u109 u110 u111 u112 u113 u114 u115 u116 u117 u118 u119 u120 u121 u122 u123 u124 u125 u126 u127 u128 u129 u130 u131 u132 u133 u134 u135 u136 u137 u138 u139 u140 u141 u142 u143 u144 u145 u146 u147 u148 u149 u150 u151 u152 u153 u154 u155 u156 u157 u158 u159 u160 u161 u162 u163 u164 u165 u166 u167 u168 u169 u170 u171 u172 u173 u174 u175 u176 u177 u178 u179 u180 u181 u182 u183 u184 u185 u186 u187 u188 u189 u190 u191 u192 u193 u194 u195 u196 u197 u198 u199 u200 u201 u202 u203 u204 u205 u206 u207 u208 u209 u210 u211 u212 u213 u214 u215 u216 u217 u218 u219 u220 u221 u222 u223 u224 u225 u226 u227 u228 u229 u230 u231 u232 u233 u234 u235 u236 u237 u238 u239 u240 u241 u242 u243 u244 u245 u246 u247 u248 u249 u250 u251 u252 u253 u254 u255 u256 u257 u258 u259 u260 u261 u262 u263 u264 u265 u266 u267 u268 u269 u270 u271 u272 u273 u274 u275 u276 u277 u278 u279 u280 u281 u282 u283 u284 u285 u286 u287 u288 u289 u290 u291 u292 u293 u294 u295 u296 u297 u298 u299 u300 u301 u302 u303 u304 u305 u306 u307 u308 u309 u310 u311 u312 u313 u314 u315 u316 u317 u318 u319 u320 u321 u322 u323 u324 u325 u326 u327 u328 u329 u330 u331 u332 u333 u334 u335 u336 u337 u338 u339 u340 u341 u342 u343 u344 u345 u346 u347 u348 u349 u350 u351 u352 u353 u354 u355 u356 u357 u358 u359 u360 u361 u362 u363 u364 u365 u366 u367 u368 u369 u370 u371 u372 u373 u374 u375 u376 u377 u378 u379 u380 u381 u382 u383 u384 u385 u386 u387 u388 u389 u390 u391 u392 u393 u394 u395 u396 u397 u398 u399 : Value) (A A' : Option Addr) (n n' c c' b : Nat) (N x y lf lu : Int) (w W : World) (A2 : Option Addr) (c2 : Nat) (l : List (Int × Int))
    (HD : Hid (DrawnT l lf lu)) (HN : Hid (N = lenAll l)) (hx : 0 ≤ x ∧ x ≤ N) (hy : 0 ≤ y ∧ y ≤ N)
    (HB0 : Hid (Below w.heap.size w W)) (HC0 : Hid (Cel W b (.slice A2 l.length c2) lf lu)) (HS0 : Hid (Secs W W.heap.size A2 l.length l)) :
    Code.wp Try.prog (dropSeq 20 B) (bodyPost Try.prog Try.f3 fun e w' => e = .returned (.bool true) ∧ Below w.heap.size w w') ⟨#[.slice A n c, .slice A' n' c', u2, u3, u4, .pointer (some ⟨b, 0, none⟩), .int .i64 N, u7, u8, u9, .int .i64 x, .int .i64 y, u12, u13, u14, u15, u16, u17, u18, u19, u20, u21, u22, u23, u24, u25, u26, u27, u28, u29, u30, u31, u32, u33, u34, u35, u36, u37, u38, u39, u40, u41, u42, u43, u44, u45, u46, u47, u48, u49, u50, u51, u52, u53, u54, u55, u56, u57, u58, u59, u60, u61, u62, u63, u64, u65, u66, u67, u68, u69, u70, u71, u72, u73, u74, u75, u76, u77, u78, u79, u80, u81, u82, u83, u84, u85, u86, u87, u88, u89, u90, u91, u92, u93, u94, u95, u96, u97, u98, u99, u100, u101, u102, u103, u104, u105, u106, u107, u108, u109, u110, u111, u112, u113, u114, u115, u116, u117, u118, u119, u120, u121, u122, u123, u124, u125, u126, u127, u128, u129, u130, u131, u132, u133, u134, u135, u136, u137, u138, u139, u140, u141, u142, u143, u144, u145, u146, u147, u148, u149, u150, u151, u152, u153, u154, u155, u156, u157, u158, u159, u160, u161, u162, u163, u164, u165, u166, u167, u168, u169, u170, u171, u172, u173, u174, u175, u176, u177, u178, u179, u180, u181, u182, u183, u184, u185, u186, u187, u188, u189, u190, u191, u192, u193, u194, u195, u196, u197, u198, u199, u200, u201, u202, u203, u204, u205, u206, u207, u208, u209, u210, u211, u212, u213, u214, u215, u216, u217, u218, u219, u220, u221, u222, u223, u224, u225, u226, u227, u228, u229, u230, u231, u232, u233, u234, u235, u236, u237, u238, u239, u240, u241, u242, u243, u244, u245, u246, u247, u248, u249, u250, u251, u252, u253, u254, u255, u256, u257, u258, u259, u260, u261, u262, u263, u264, u265, u266, u267, u268, u269, u270, u271, u272, u273, u274, u275, u276, u277, u278, u279, u280, u281, u282, u283, u284, u285, u286, u287, u288, u289, u290, u291, u292, u293, u294, u295, u296, u297, u298, u299, u300, u301, u302, u303, u304, u305, u306, u307, u308, u309, u310, u311, u312, u313, u314, u315, u316, u317, u318, u319, u320, u321, u322, u323, u324, u325, u326, u327, u328, u329, u330, u331, u332, u333, u334, u335, u336, u337, u338, u339, u340, u341, u342, u343, u344, u345, u346, u347, u348, u349, u350, u351, u352, u353, u354, u355, u356, u357, u358, u359, u360, u361, u362, u363, u364, u365, u366, u367, u368, u369, u370, u371, u372, u373, u374, u375, u376, u377, u378, u379, u380, u381, u382, u383, u384, u385, u386, u387, u388, u389, u390, u391, u392, u393, u394, u395, u396, u397, u398, u399], []⟩ W := by
  obtain ⟨lc, hlc⟩ : ∃ lc, lc = cutTo l x l.length := ⟨_, rfl⟩
  obtain ⟨lj, hlj⟩ : ∃ lj, lj = joinTo lc lc.length := ⟨_, rfl⟩
  obtain ⟨st, hst⟩ : ∃ st, st = steepN l := ⟨_, rfl⟩
  obtain ⟨hv, hve⟩ : ∃ hv, hv = hAt l y := ⟨_, rfl⟩
  have hN := HN.out
  have hlen := HD.out.len
  have hval := HD.out.valid
  have hsome := HD.out.some_
  have h5 := HD.out.good.1
  obtain ⟨d1, d2, d3, d4, d5, d6, d7, d8, d9⟩ := drawn_cut (x := x) HD.out (by omega)
  rw [← hlc] at d1 d2 d3 d4 d5 d6
  obtain ⟨e1, e2, e3, e4, e5⟩ := drawn_join (lf := lf) (lu := lu) d3 d5 (by omega)
  rw [← hlj] at e1 e2 e3 e4 e5
  obtain ⟨s1, s2⟩ := steep_facts hsome
  rw [← hst] at s1 s2
  have htb := trackB_iff.2 hval
  have htc := trackB_iff.2 d3
  have k1 : hAt lc y = hv := by rw [hlc, hve]; exact cut_height l x y
  have k2 : hAt lj y = hv := by rw [hlj, join_height d5 y]; exact k1
  obtain ⟨o1, o2⟩ := onB_yes (x := y) hval (by omega)
  obtain ⟨o3, o4⟩ := onB_yes (x := y) d3 (by omega)
  obtain ⟨o5, o6⟩ := onB_yes (x := y) e2 (by omega)
  have HCUT : Hid (∀ W', Secs W' W'.heap.size A2 l.length l → Calls Try.prog 15 #[.agg #[.slice A2 l.length c2, .int .i64 lf, .int .i64 lu], .int .i64 x] W' (NewTrk W' lc lf lu 0)) := fun W' hs => by
    have h1 := implCut_any A2 l.length c2 lf lu l x W' hs (by omega)
    rw [d6, d7, d8, d9] at h1
    exact h1
  have HJOIN : Hid (∀ Ac cc W', Secs W' W'.heap.size Ac lc.length lc → Calls Try.prog 16 #[.agg #[.slice Ac lc.length cc, .int .i64 lf, .int .i64 lu]] W' (NewTrk W' lj lf lu 0)) := fun Ac cc W' hs => by
    have h1 := implJoin_any Ac lc.length cc lf lu lc W' hs (by omega)
    rw [htc, e5] at h1
    exact h1
  have HTURN : Hid (∀ W', Secs W' W'.heap.size A2 l.length l → Calls Try.prog 17 #[.agg #[.slice A2 l.length c2, .int .i64 lf, .int .i64 lu]] W' fun e w' => ∃ A c, e = .returned (.tuple #[.agg #[.slice A l.length c, .int .i64 (N - lu), .int .i64 (N - lf)], .int .i64 0]) ∧ OwnT w' W'.heap.size A l.length l.reverse ∧ Below W'.heap.size W' w') := fun W' hs => by
    have h1 := implTurn_any A2 l.length c2 lf lu l W' hs (by omega)
    obtain ⟨u1, u2, u3, u4⟩ := turn_ok htb
    rw [u1, u2, u3, u4, ← hN] at h1
    refine h1.mono ?_
    rintro e w' ⟨A, c, hh1, hh2, hh3⟩
    rw [List.length_reverse] at hh1 hh2
    exact ⟨A, c, hh1, hh2, hh3⟩
  have HSTEEP : Hid (∀ W', Secs W' W'.heap.size A2 l.length l → Calls Try.prog 18 #[.agg #[.slice A2 l.length c2, .int .i64 lf, .int .i64 lu]] W' fun e w' => e = .returned (.tuple #[.int .i64 (st : Int), .int .i64 0]) ∧ Below W'.heap.size W' w') := fun W' hs => by
    have h1 := implSteepestOf_any A2 l.length c2 lf lu l W' hs (by omega)
    rw [htb, ← hst] at h1
    exact h1
  have HHC : Hid (∀ Ac cc W', Secs W' W'.heap.size Ac lc.length lc → Calls Try.prog 14 #[.agg #[.slice Ac lc.length cc, .int .i64 lf, .int .i64 lu], .int .i64 y] W' fun e w' => e = .returned (.tuple #[.int .i64 hv, .int .i64 0]) ∧ Below W'.heap.size W' w') := fun Ac cc W' hs => by
    have h1 := specHeightAt_any Ac lc.length cc lf lu lc y W' hs (by omega)
    rw [o3, o4, k1] at h1
    exact h1
  have HHJ : Hid (∀ Aj cj W', Secs W' W'.heap.size Aj lj.length lj → Calls Try.prog 14 #[.agg #[.slice Aj lj.length cj, .int .i64 lf, .int .i64 lu], .int .i64 y] W' fun e w' => e = .returned (.tuple #[.int .i64 hv, .int .i64 0]) ∧ Below W'.heap.size W' w') := fun Aj cj W' hs => by
    have h1 := specHeightAt_any Aj lj.length cj lf lu lj y W' hs (by omega)
    rw [o5, o6, k2] at h1
    exact h1
  have HHO : Hid (∀ W', Secs W' W'.heap.size A2 l.length l → Calls Try.prog 14 #[.agg #[.slice A2 l.length c2, .int .i64 lf, .int .i64 lu], .int .i64 y] W' fun e w' => e = .returned (.tuple #[.int .i64 hv, .int .i64 0]) ∧ Below W'.heap.size W' w') := fun W' hs => by
    have h1 := specHeightAt_any A2 l.length c2 lf lu l y W' hs (by omega)
    rw [o1, o2, ← hve] at h1
    exact h1
  have hfu : (0 ≤ lf ∧ lf ≤ 1095000) ∧ (0 ≤ lu ∧ lu ≤ 1095000) := by
    have := hval.from_
    have := hval.until_
    omega
  have HAP := Lib.hid e4
  have HST := Lib.hid s2
  have hN1 : 0 ≤ N ∧ N ≤ 1095000 := by omega
  clear hN hlen hval d3 d4 d5 d6 d7 d8 d9 e2 e3 e4 e5 s2 htb htc k1 k2 o1 o2 o3 o4 o5 o6 hlc hlj hst hve
  obtain ⟨t0, t1, t2⟩ := And.intro HC0.out.c0 (And.intro HC0.out.c1 HC0.out.c2)
  conv => arg 2; whnf
  -- the cut
  refine wp_seq_k fun K hK => ?_
  go_wp2_with fail
  refine (HCUT.out _ HS0.out).mono ?_
  rintro e V1 ⟨Ac, cc, rfl, ho1, hb1⟩
  obtain ⟨hc1, hn1⟩ := Cel.new V1 (.slice Ac lc.length cc) lf lu
  have HX1 : Hid (Below W.heap.size W (V1.alloc (.cells #[.slice Ac lc.length cc, .int .i64 lf, .int .i64 lu] 26))) := hb1.trans (hn1.mono hb1.size)
  have HC1 := Lib.hid hc1
  have HSc1 := Lib.hid (ho1.secs.below hn1 hn1.size)
  clear ho1 hb1 hc1 hn1
  go_wp2_with fail
  generalize V1.alloc (.cells #[.slice Ac lc.length cc, .int .i64 lf, .int .i64 lu] 26) = W1 at *
  generalize V1.heap.size = bc at *
  -- joined
  refine (HJOIN.out _ _ _ HSc1.out).mono ?_
  rintro e V2 ⟨Aj, cj, rfl, ho2, hb2⟩
  obtain ⟨hc2, hn2⟩ := Cel.new V2 (.slice Aj lj.length cj) lf lu
  have hbb := hb2.trans (hn2.mono hb2.size)
  have HX2 := Lib.hid (HX1.out.trans (hbb.mono HX1.out.size))
  have HC2 := Lib.hid (HC1.out.below hbb)
  have HSc2 := Lib.hid (HSc1.out.below hbb hbb.size)
  have HJ2 := Lib.hid hc2
  have HSj2 := Lib.hid (ho2.secs.below hn2 hn2.size)
  obtain ⟨t0, t1, t2⟩ := Cel.all3 (HC0.out.below HX2.out)
  clear ho2 hb2 hc2 hn2 hbb HX1 HC1 HSc1
  go_wp2_with fail
  generalize V2.alloc (.cells #[.slice Aj lj.length cj, .int .i64 lf, .int .i64 lu] 26) = W2 at *
  generalize V2.heap.size = bj at *
  -- turned
  refine (HTURN.out _ (HS0.out.below HX2.out HX2.out.size)).mono ?_
  rintro e V3 ⟨At, ct, rfl, ho3, hb3⟩
  obtain ⟨hc3, hn3⟩ := Cel.new V3 (.slice At l.length ct) (N - lu) (N - lf)
  have hbb := hb3.trans (hn3.mono hb3.size)
  have HX3 := Lib.hid (HX2.out.trans (hbb.mono HX2.out.size))
  have HC3 := Lib.hid (HC2.out.below hbb)
  have HSc3 := Lib.hid (HSc2.out.below hbb hbb.size)
  have HJ3 := Lib.hid (HJ2.out.below hbb)
  have HSj3 := Lib.hid (HSj2.out.below hbb hbb.size)
  have HT3 := Lib.hid hc3
  have HSt3 := Lib.hid (ho3.secs.below hn3 hn3.size)
  clear t0 t1 t2
  obtain ⟨t0, t1, t2⟩ := Cel.all3 (HC0.out.below HX3.out)
  clear ho3 hb3 hc3 hn3 hbb HX2 HC2 HSc2 HJ2 HSj2
  go_wp2_with fail
  generalize V3.alloc (.cells #[.slice At l.length ct, .int .i64 (N - lu), .int .i64 (N - lf)] 26) = W3 at *
  generalize V3.heap.size = bt at *
  -- the steepest
  refine (HSTEEP.out _ (HS0.out.below HX3.out HX3.out.size)).mono ?_
  rintro e W4 ⟨rfl, hbb⟩
  have HX4 := Lib.hid (HX3.out.trans (hbb.mono HX3.out.size))
  have HC4 := Lib.hid (HC3.out.below hbb)
  have HSc4 := Lib.hid (HSc3.out.below hbb hbb.size)
  have HJ4 := Lib.hid (HJ3.out.below hbb)
  have HSj4 := Lib.hid (HSj3.out.below hbb hbb.size)
  have HT4 := Lib.hid (HT3.out.below hbb)
  have HSt4 := Lib.hid (HSt3.out.below hbb hbb.size)
  clear t0 t1 t2
  obtain ⟨t0, t1, t2⟩ := Cel.all3 (HC0.out.below HX4.out)
  have c0 := HC4.out.c0
  have j0 := HT4.out.c0
  clear hbb HX3 HC3 HSc3 HJ3 HSj3 HT3 HSt3
  go_upto_region 30 with fail
  rename_i K25 hK25 Kc hKc
  have HK : ∀ (u2 u3 u4 u7 u8 u9 u10 u12 u13 u14 u15 u16 u17 u18 u19 u20 u21 u22 u23 u24 u25 u26 u27 u29 u31 u33 u35 u36 u37 u38 u39 u40 u41 u42 u43 u44 u45 u46 u47 u48 u49 u50 u51 u52 u53 u54 u55 u56 u57 u58 u59 u60 u61 u62 u63 u64 u65 u66 u67 u68 u69 u70 u71 u72 u73 u74 u75 u76 u77 u78 u79 u80 u81 u82 u83 u84 u85 u86 u87 u88 u89 u90 u91 u92 u93 u94 u95 u96 u97 u98 u99 u100 u101 u102 u103 u104 u105 u106 u107 u108 u109 u110 u111 u112 u113 u114 u115 u116 u117 u118 u119 u120 u121 u122 u123 u124 u125 u126 u127 u128 u129 u130 u131 u132 u133 u134 u135 u136 u137 u138 u139 u140 u141 u142 u143 u144 u145 u146 u147 u148 u149 u150 u151 u152 u153 u154 u155 u156 u157 u158 u159 u160 u161 u162 u163 u164 u165 u166 u167 u168 u169 u170 u171 u172 u173 u174 u175 u176 u177 u178 u179 u180 u181 u182 u183 u184 u185 u186 u187 u188 u189 u190 u191 u192 u193 u194 u195 u196 u197 u198 u199 u200 u201 u202 u203 u204 u205 u206 u207 u208 u209 u210 u211 u212 u213 u214 u215 u216 u217 u218 u219 u220 u221 u222 u223 u224 u225 u226 u227 u228 u229 u230 u231 u232 u233 u234 u235 u236 u237 u238 u239 u240 u241 u242 u243 u244 u245 u246 u247 u248 u249 u250 u251 u252 u253 u254 u255 u256 u257 u258 u259 u260 u261 u262 u263 u264 u265 u266 u267 u268 u269 u270 u271 u272 u273 u274 u275 u276 u277 u278 u279 u280 u281 u282 u283 u284 u285 u286 u287 u288 u289 u290 u291 u292 u293 u294 u295 u296 u297 u298 u299 u300 u301 u302 u303 u304 u305 u306 u307 u308 u309 u310 u311 u312 u313 u314 u315 u316 u317 u318 u319 u320 u321 u322 u323 u324 u325 u326 u327 u328 u329 u330 u331 u332 u333 u334 u335 u336 u337 u338 u339 u340 u341 u342 u343 u344 u345 u346 u347 u348 u349 u350 u351 u352 u353 u354 u355 u356 u357 u358 u359 u360 u361 u362 u363 u364 u365 u366 u367 u368 u369 u370 u371 u372 u373 u374 u375 u376 u377 u378 u379 u380 u381 u382 u383 u384 u385 u386 u387 u388 u389 u390 u391 u392 u393 u394 u395 u396 u397 u398 u399 : Value), K25 ⟨#[.slice A n c, .slice A' n' c', u2, u3, u4, .pointer (some ⟨b, 0, none⟩), .int .i64 N, u7, u8, u9, u10, .int .i64 y, u12, u13, u14, u15, u16, u17, u18, u19, u20, u21, u22, u23, u24, u25, u26, u27, .pointer (some ⟨bc, 0, none⟩), u29, .pointer (some ⟨bj, 0, none⟩), u31, .pointer (some ⟨bt, 0, none⟩), u33, .int .i64 st, u35, u36, u37, u38, u39, u40, u41, u42, u43, u44, u45, u46, u47, u48, u49, u50, u51, u52, u53, u54, u55, u56, u57, u58, u59, u60, u61, u62, u63, u64, u65, u66, u67, u68, u69, u70, u71, u72, u73, u74, u75, u76, u77, u78, u79, u80, u81, u82, u83, u84, u85, u86, u87, u88, u89, u90, u91, u92, u93, u94, u95, u96, u97, u98, u99, u100, u101, u102, u103, u104, u105, u106, u107, u108, u109, u110, u111, u112, u113, u114, u115, u116, u117, u118, u119, u120, u121, u122, u123, u124, u125, u126, u127, u128, u129, u130, u131, u132, u133, u134, u135, u136, u137, u138, u139, u140, u141, u142, u143, u144, u145, u146, u147, u148, u149, u150, u151, u152, u153, u154, u155, u156, u157, u158, u159, u160, u161, u162, u163, u164, u165, u166, u167, u168, u169, u170, u171, u172, u173, u174, u175, u176, u177, u178, u179, u180, u181, u182, u183, u184, u185, u186, u187, u188, u189, u190, u191, u192, u193, u194, u195, u196, u197, u198, u199, u200, u201, u202, u203, u204, u205, u206, u207, u208, u209, u210, u211, u212, u213, u214, u215, u216, u217, u218, u219, u220, u221, u222, u223, u224, u225, u226, u227, u228, u229, u230, u231, u232, u233, u234, u235, u236, u237, u238, u239, u240, u241, u242, u243, u244, u245, u246, u247, u248, u249, u250, u251, u252, u253, u254, u255, u256, u257, u258, u259, u260, u261, u262, u263, u264, u265, u266, u267, u268, u269, u270, u271, u272, u273, u274, u275, u276, u277, u278, u279, u280, u281, u282, u283, u284, u285, u286, u287, u288, u289, u290, u291, u292, u293, u294, u295, u296, u297, u298, u299, u300, u301, u302, u303, u304, u305, u306, u307, u308, u309, u310, u311, u312, u313, u314, u315, u316, u317, u318, u319, u320, u321, u322, u323, u324, u325, u326, u327, u328, u329, u330, u331, u332, u333, u334, u335, u336, u337, u338, u339, u340, u341, u342, u343, u344, u345, u346, u347, u348, u349, u350, u351, u352, u353, u354, u355, u356, u357, u358, u359, u360, u361, u362, u363, u364, u365, u366, u367, u368, u369, u370, u371, u372, u373, u374, u375, u376, u377, u378, u379, u380, u381, u382, u383, u384, u385, u386, u387, u388, u389, u390, u391, u392, u393, u394, u395, u396, u397, u398, u399], []⟩ W4 := fun u2 u3 u4 u7 u8 u9 u10 u12 u13 u14 u15 u16 u17 u18 u19 u20 u21 u22 u23 u24 u25 u26 u27 u29 u31 u33 u35 u36 u37 u38 u39 u40 u41 u42 u43 u44 u45 u46 u47 u48 u49 u50 u51 u52 u53 u54 u55 u56 u57 u58 u59 u60 u61 u62 u63 u64 u65 u66 u67 u68 u69 u70 u71 u72 u73 u74 u75 u76 u77 u78 u79 u80 u81 u82 u83 u84 u85 u86 u87 u88 u89 u90 u91 u92 u93 u94 u95 u96 u97 u98 u99 u100 u101 u102 u103 u104 u105 u106 u107 u108 u109 u110 u111 u112 u113 u114 u115 u116 u117 u118 u119 u120 u121 u122 u123 u124 u125 u126 u127 u128 u129 u130 u131 u132 u133 u134 u135 u136 u137 u138 u139 u140 u141 u142 u143 u144 u145 u146 u147 u148 u149 u150 u151 u152 u153 u154 u155 u156 u157 u158 u159 u160 u161 u162 u163 u164 u165 u166 u167 u168 u169 u170 u171 u172 u173 u174 u175 u176 u177 u178 u179 u180 u181 u182 u183 u184 u185 u186 u187 u188 u189 u190 u191 u192 u193 u194 u195 u196 u197 u198 u199 u200 u201 u202 u203 u204 u205 u206 u207 u208 u209 u210 u211 u212 u213 u214 u215 u216 u217 u218 u219 u220 u221 u222 u223 u224 u225 u226 u227 u228 u229 u230 u231 u232 u233 u234 u235 u236 u237 u238 u239 u240 u241 u242 u243 u244 u245 u246 u247 u248 u249 u250 u251 u252 u253 u254 u255 u256 u257 u258 u259 u260 u261 u262 u263 u264 u265 u266 u267 u268 u269 u270 u271 u272 u273 u274 u275 u276 u277 u278 u279 u280 u281 u282 u283 u284 u285 u286 u287 u288 u289 u290 u291 u292 u293 u294 u295 u296 u297 u298 u299 u300 u301 u302 u303 u304 u305 u306 u307 u308 u309 u310 u311 u312 u313 u314 u315 u316 u317 u318 u319 u320 u321 u322 u323 u324 u325 u326 u327 u328 u329 u330 u331 u332 u333 u334 u335 u336 u337 u338 u339 u340 u341 u342 u343 u344 u345 u346 u347 u348 u349 u350 u351 u352 u353 u354 u355 u356 u357 u358 u359 u360 u361 u362 u363 u364 u365 u366 u367 u368 u369 u370 u371 u372 u373 u374 u375 u376 u377 u378 u379 u380 u381 u382 u383 u384 u385 u386 u387 u388 u389 u390 u391 u392 u393 u394 u395 u396 u397 u398 u399 => hK25 _ _ (tail25 u2 u3 u4 u7 u8 u9 u10 u12 u13 u14 u15 u16 u17 u18 u19 u20 u21 u22 u23 u24 u25 u26 u27 u29 u31 u33 u35 u36 u37 u38 u39 u40 u41 u42 u43 u44 u45 u46 u47 u48 u49 u50 u51 u52 u53 u54 u55 u56 u57 u58 u59 u60 u61 u62 u63 u64 u65 u66 u67 u68 u69 u70 u71 u72 u73 u74 u75 u76 u77 u78 u79 u80 u81 u82 u83 u84 u85 u86 u87 u88 u89 u90 u91 u92 u93 u94 u95 u96 u97 u98 u99 u100 u101 u102 u103 u104 u105 u106 u107 u108 u109 u110 u111 u112 u113 u114 u115 u116 u117 u118 u119 u120 u121 u122 u123 u124 u125 u126 u127 u128 u129 u130 u131 u132 u133 u134 u135 u136 u137 u138 u139 u140 u141 u142 u143 u144 u145 u146 u147 u148 u149 u150 u151 u152 u153 u154 u155 u156 u157 u158 u159 u160 u161 u162 u163 u164 u165 u166 u167 u168 u169 u170 u171 u172 u173 u174 u175 u176 u177 u178 u179 u180 u181 u182 u183 u184 u185 u186 u187 u188 u189 u190 u191 u192 u193 u194 u195 u196 u197 u198 u199 u200 u201 u202 u203 u204 u205 u206 u207 u208 u209 u210 u211 u212 u213 u214 u215 u216 u217 u218 u219 u220 u221 u222 u223 u224 u225 u226 u227 u228 u229 u230 u231 u232 u233 u234 u235 u236 u237 u238 u239 u240 u241 u242 u243 u244 u245 u246 u247 u248 u249 u250 u251 u252 u253 u254 u255 u256 u257 u258 u259 u260 u261 u262 u263 u264 u265 u266 u267 u268 u269 u270 u271 u272 u273 u274 u275 u276 u277 u278 u279 u280 u281 u282 u283 u284 u285 u286 u287 u288 u289 u290 u291 u292 u293 u294 u295 u296 u297 u298 u299 u300 u301 u302 u303 u304 u305 u306 u307 u308 u309 u310 u311 u312 u313 u314 u315 u316 u317 u318 u319 u320 u321 u322 u323 u324 u325 u326 u327 u328 u329 u330 u331 u332 u333 u334 u335 u336 u337 u338 u339 u340 u341 u342 u343 u344 u345 u346 u347 u348 u349 u350 u351 u352 u353 u354 u355 u356 u357 u358 u359 u360 u361 u362 u363 u364 u365 u366 u367 u368 u369 u370 u371 u372 u373 u374 u375 u376 u377 u378 u379 u380 u381 u382 u383 u384 u385 u386 u387 u388 u389 u390 u391 u392 u393 u394 u395 u396 u397 u398 u399 A A' n n' c c' b bc bj bt (.slice Ac lc.length cc) N y hv lf lu lf lu w W4 W4 (HB0.out.trans (HX4.out.mono HB0.out.size)) A2 Aj At l.length c2 lj.length cj ct st l lj hN1 hfu.1 hfu.2 (Below.refl _ _) ⟨HC0.out.below HX4.out, HC4.out, HJ4.out, HT4.out⟩ HSj4 HAP (by omega) (HS0.out.below HX4.out HX4.out.size) HSt4 (by omega) s1 HST
    (fun W' hb _ => HHC.out _ _ _ (HSc4.out.below hb hb.size)) (fun W' hb _ => HHJ.out _ _ _ (HSj4.out.below hb hb.size)) (fun W' hb _ => HHO.out _ ((HS0.out.below HX4.out HX4.out.size).below hb hb.size)))
  clear hK25
  have x1 : ¬ (lc.length : Int) < (l.length : Int) := by omega
  have x2 : ¬ (l.length : Int) + 1 < (lc.length : Int) := by omega
  have x3 : ¬ (st : Int) < 0 := by omega
  have x4 : ¬ (l.length : Int) ≤ (st : Int) := by omega
  have x5 : (st : Int) < (l.length : Int) := by omega
  go_wp2_with fail
  exact HK _ _ _ _ _ _ _ _ _ _ _ _ _ _ _ _ _ _ _ _ _ _ _ _ _ _ _ _ _ _ _ _ _ _ _ _ _ _ _ _ _ _ _ _ _ _ _ _ _ _ _ _ _ _ _ _ _ _ _ _ _ _ _ _ _ _ _ _ _ _ _ _ _ _ _ _ _ _ _ _ _ _ _ _ _ _ _ _ _ _ _ _ _ _ _ _ _ _ _ _ _ _ _ _ _ _ _ _ _ _ _ _ _ _ _ _ _ _ _ _ _ _ _ _ _ _ _ _ _ _ _ _ _ _ _ _ _ _ _ _ _ _ _ _ _ _ _ _ _ _ _ _ _ _ _ _ _ _ _ _ _ _ _ _ _ _ _ _ _ _ _ _ _ _ _ _ _ _ _ _ _ _ _ _ _ _ _ _ _ _ _ _ _ _ _ _ _ _ _ _ _ _ _ _ _ _ _ _ _ _ _ _ _ _ _ _ _ _ _ _ _ _ _ _ _ _ _ _ _ _ _ _ _ _ _ _ _ _ _ _ _ _ _ _ _ _ _ _ _ _ _ _ _ _ _ _ _ _ _ _ _ _ _ _ _ _ _ _ _ _ _ _ _ _ _ _ _ _ _ _ _ _ _ _ _ _ _ _ _ _ _ _ _ _ _ _ _ _ _ _ _ _ _ _ _ _ _ _ _ _ _ _ _ _ _ _ _ _ _ _ _ _ _ _ _ _ _ _ _ _ _ _ _ _ _ _ _ _ _ _ _ _ _ _ _ _ _ _ _ _ _ _ _ _ _ _ _ _ _ _ _ _ _ _ _ _ _ _ _ _ _ _ _ _ _ _ _ _ _ _ _ _ _ _ _ _ _ _ _ _ _
end Go.Proofs.Ytcpppiafjlgimaa.TraX
