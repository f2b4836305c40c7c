/- The third part of the law on bends: the least radius. -/
import Derived.Test.YtmjjobfaboljpaaBdsA
import Derived.Test.YtmjjobfaboljpaaBdrC
import Derived.Test.YtmjjobfaboljpaaBdrP
import Derived.Test.YtmjjobfaboljpaaBndD
import Derived.Test.YtmjjobfaboljpaaBndE
import Derived.Test.YtmjjobfaboljpaaBndF
import Derived.Test.YtmjjobfaboljpaaBlsE
import Derived.Test.YtmjjobfaboljpaaWalkG
import Derived.Deep.DeepCutAuto
namespace Go.Proofs.Ytmjjobfaboljpaa.BdsB
set_option maxRecDepth 100000
open Go.Proofs.Ytmjjobfaboljpaa.BdsA Go.RowKit Go.Proofs.Ytmjjobfaboljpaa.Plain Go.Proofs.Ytmjjobfaboljpaa.WalkA Go.Proofs.Ytmjjobfaboljpaa.WalkB Go.Proofs.Ytmjjobfaboljpaa.WalkC Go.Proofs.Ytmjjobfaboljpaa.WalkF Go.Proofs.Ytmjjobfaboljpaa.WalkG Go.Proofs.Ytmjjobfaboljpaa.WalkH Go.Proofs.Ytmjjobfaboljpaa.BndA Go.Proofs.Ytmjjobfaboljpaa.BLaw Go.Proofs.Ytmjjobfaboljpaa.BndC Go.Proofs.Ytmjjobfaboljpaa.BndD Go.Proofs.Ytmjjobfaboljpaa.BndE Go.Proofs.Ytmjjobfaboljpaa.BndF Go.Proofs.Ytmjjobfaboljpaa.BlsA Go.Proofs.Ytmjjobfaboljpaa.BlsD Go.Proofs.Ytmjjobfaboljpaa.BlsE Go.Proofs.Ytmjjobfaboljpaa.BdrB Go.Proofs.Ytmjjobfaboljpaa.BdrC Go.Proofs.Ytmjjobfaboljpaa.BdrP
open Go.Proofs.Ytmjjobfaboljpaa.SrcA (Bys)
theorem name_x : nameB ⟨#[120]⟩ = true := by decide
set_option maxRecDepth 1000000 in
set_option maxHeartbeats 8000000 in
theorem tail8 (u2 u3 u4 u5 u6 u7 u8 u9 u10 u11 u12 u13 u14 u15 u16 u17 u18 u19 u20 u21 u22 u23 u24 u25 u26 u27 u28 u29 u30 u31 u32 u33 u34 u35 u36 u37 u38 u39 u40 u41 u42 u43 u44 u45 u46 u47 u48 u49 u50 u51 u52 u53 u54 u55 u56 u57 u58 u59 u60 u61 u62 u63 u64 u65 u66 u67 u68 u69 u70 u71 u72 u73 u74 u75 u76 u77 u78 u79 u80 u81 u82 u83 u84 u85 u86 u87 u88 u89 u90 u91 u92 u93 u94 u95 u96 u97 u98 u99 u100 u101 u102 u103 u104 u105 u106 u107 u108 u109 u110 u111 u112 u113 u114 u115 u116 u117 u118 u119 u120 u121 u122 u123 u124 u125 u126 u127 u128 u129 u130 u131 u132 u133 u134 u135 u136 u137 u138 u139 u140 u141 u142 u143 u144 u145 u146 u147 u148 u149 u150 u151 u152 u153 u154 u155 u156 u157 u158 u159 u160 u161 u162 u163 u164 u165 u166 u167 u168 u169 u170 u171 u172 u173 u174 u175 u176 u177 u178 u179 u180 u181 u182 u183 u184 u185 u186 u187 u188 u189 u190 u191 u192 u193 u194 u195 u196 u197 u198 u199 u200 u201 u202 u203 u204 u205 u206 u207 u208 u209 u210 u211 u212 u213 u214 u215 u216 u217 u218 u219 u220 u221 u222 u223 u224 u225 u226 u227 u228 u229 u230 u231 u232 u233 u234 u235 u236 u237 u238 u239 u240 u241 u242 u243 u244 u245 u246 u247 u248 u249 u250 u251 u252 u253 u254 u255 u256 u257 u258 u259 u260 u261 u262 u263 u264 u265 u266 u267 u268 u269 u270 u271 u272 u273 u274 : Value) (A A' : Option Addr) (n n' c c' : Nat) (w W : World) (HA : Hid (Bys w w.heap.size A n)) (HA' : Hid (Bys w w.heap.size A' n')) (hn : n ≤ 1048576) (hn' : n' ≤ 1048576) (HB0 : Hid (Below w.heap.size w W)) :
    Code.wp Try.prog (dropSeq 8 B) (bodyPost Try.prog Try.f3 fun e w' => e = .returned (.bool true) ∧ Below w.heap.size w w') ⟨#[.slice A n c, .slice A' n' c', u2, u3, u4, u5, u6, u7, u8, u9, u10, u11, u12, u13, u14, u15, u16, u17, u18, u19, u20, u21, u22, u23, u24, u25, u26, u27, u28, u29, u30, u31, u32, u33, u34, u35, u36, u37, u38, u39, u40, u41, u42, u43, u44, u45, u46, u47, u48, u49, u50, u51, u52, u53, u54, u55, u56, u57, u58, u59, u60, u61, u62, u63, u64, u65, u66, u67, u68, u69, u70, u71, u72, u73, u74, u75, u76, u77, u78, u79, u80, u81, u82, u83, u84, u85, u86, u87, u88, u89, u90, u91, u92, u93, u94, u95, u96, u97, u98, u99, u100, u101, u102, u103, u104, u105, u106, u107, u108, u109, u110, u111, u112, u113, u114, u115, u116, u117, u118, u119, u120, u121, u122, u123, u124, u125, u126, u127, u128, u129, u130, u131, u132, u133, u134, u135, u136, u137, u138, u139, u140, u141, u142, u143, u144, u145, u146, u147, u148, u149, u150, u151, u152, u153, u154, u155, u156, u157, u158, u159, u160, u161, u162, u163, u164, u165, u166, u167, u168, u169, u170, u171, u172, u173, u174, u175, u176, u177, u178, u179, u180, u181, u182, u183, u184, u185, u186, u187, u188, u189, u190, u191, u192, u193, u194, u195, u196, u197, u198, u199, u200, u201, u202, u203, u204, u205, u206, u207, u208, u209, u210, u211, u212, u213, u214, u215, u216, u217, u218, u219, u220, u221, u222, u223, u224, u225, u226, u227, u228, u229, u230, u231, u232, u233, u234, u235, u236, u237, u238, u239, u240, u241, u242, u243, u244, u245, u246, u247, u248, u249, u250, u251, u252, u253, u254, u255, u256, u257, u258, u259, u260, u261, u262, u263, u264, u265, u266, u267, u268, u269, u270, u271, u272, u273, u274], []⟩ W := by
  have HD := Lib.hid (drawLeastRadius_any A n c W (HA.out.below HB0.out HB0.out.size) hn)
  conv => arg 2; whnf
  go_wp2_with fail
  refine HD.out.mono ?_
  rintro e W1 ⟨fa, ti, wi, rfl, hb⟩
  have HB1 := Lib.hid (HB0.out.trans (hb.mono HB0.out.size))
  clear hb HD
  obtain ⟨r, hr⟩ : ∃ r, radB fa ti wi = true → Turn (radP fa ti wi) 10000 10000000 r := ⟨firstI (radP fa ti wi) 10000 9990001, fun _ => firstI_is (radP fa ti wi) 10000 9990001⟩
  have HI := Lib.hid (implLeastRadius_any fa ti wi r hr W1)
  cases hok : radB fa ti wi
  · rw [hok] at HI
    have e1 : radV false r = .tuple #[.int .i64 0, .int .i64 2] := rfl
    rw [e1] at HI
    clear hok hr e1
    go_wp2_with fail
    refine HI.out.mono ?_
    rintro e W2 ⟨rfl, hb2⟩
    have HB2 := Lib.hid (HB1.out.trans (hb2.mono HB1.out.size))
    clear hb2
    go_upto_region 26 with fail
    rename_i K11 hK11 Kc hKc
    have HK := Lib.hid hK11
    clear hK11
    go_wp2_with fail
    refine HK.out _ _ ?_
    exact tail11 _ _ _ _ _ _ _ _ _ _ _ _ _ _ _ _ _ _ _ _ _ _ _ _ _ _ _ _ _ _ _ _ _ _ _ _ _ _ _ _ _ _ _ _ _ _ _ _ _ _ _ _ _ _ _ _ _ _ _ _ _ _ _ _ _ _ _ _ _ _ _ _ _ _ _ _ _ _ _ _ _ _ _ _ _ _ _ _ _ _ _ _ _ _ _ _ _ _ _ _ _ _ _ _ _ _ _ _ _ _ _ _ _ _ _ _ _ _ _ _ _ _ _ _ _ _ _ _ _ _ _ _ _ _ _ _ _ _ _ _ _ _ _ _ _ _ _ _ _ _ _ _ _ _ _ _ _ _ _ _ _ _ _ _ _ _ _ _ _ _ _ _ _ _ _ _ _ _ _ _ _ _ _ _ _ _ _ _ _ _ _ _ _ _ _ _ _ _ _ _ _ _ _ _ _ _ _ _ _ _ _ _ _ _ _ _ _ _ _ _ _ _ _ _ _ _ _ _ _ _ _ _ _ _ _ _ _ _ _ _ _ _ _ _ _ _ _ _ _ _ _ _ _ _ _ _ _ _ _ _ _ _ _ _ _ _ _ _ _ _ _ _ _ A A' n n' c c' w _ HA HA' hn hn' HB2
  · rw [hok] at HI
    have hok2 := hok
    unfold radB at hok2
    rw [Bool.and_eq_true, Bool.and_eq_true, inB_iff, inB_iff, inB_iff] at hok2
    obtain ⟨⟨fa0, fa1⟩, ⟨ti0, ti1⟩, ⟨wi0, wi1⟩⟩ := hok2
    by_cases hr7 : 10000000 < r
    · have e1 : radV true r = .tuple #[.int .i64 0, .int .i64 3] := by unfold radV; rw [if_pos rfl, if_pos hr7]
      rw [e1] at HI
      clear hok hr e1 hr7
      go_wp2_with fail
      refine HI.out.mono ?_
      rintro e W2 ⟨rfl, hb2⟩
      have HB2 := Lib.hid (HB1.out.trans (hb2.mono HB1.out.size))
      clear hb2
      go_upto_region 26 with fail
      rename_i K11 hK11 Kc hKc
      have HK := Lib.hid hK11
      clear hK11
      go_wp2_with fail
      refine HK.out _ _ ?_
      exact tail11 _ _ _ _ _ _ _ _ _ _ _ _ _ _ _ _ _ _ _ _ _ _ _ _ _ _ _ _ _ _ _ _ _ _ _ _ _ _ _ _ _ _ _ _ _ _ _ _ _ _ _ _ _ _ _ _ _ _ _ _ _ _ _ _ _ _ _ _ _ _ _ _ _ _ _ _ _ _ _ _ _ _ _ _ _ _ _ _ _ _ _ _ _ _ _ _ _ _ _ _ _ _ _ _ _ _ _ _ _ _ _ _ _ _ _ _ _ _ _ _ _ _ _ _ _ _ _ _ _ _ _ _ _ _ _ _ _ _ _ _ _ _ _ _ _ _ _ _ _ _ _ _ _ _ _ _ _ _ _ _ _ _ _ _ _ _ _ _ _ _ _ _ _ _ _ _ _ _ _ _ _ _ _ _ _ _ _ _ _ _ _ _ _ _ _ _ _ _ _ _ _ _ _ _ _ _ _ _ _ _ _ _ _ _ _ _ _ _ _ _ _ _ _ _ _ _ _ _ _ _ _ _ _ _ _ _ _ _ _ _ _ _ _ _ _ _ _ _ _ _ _ _ _ _ _ _ _ _ _ _ _ _ _ _ _ _ _ _ _ _ _ _ _ A A' n n' c c' w _ HA HA' hn hn' HB2
    · have e1 : radV true r = .tuple #[.int .i64 r, .int .i64 0] := by unfold radV; rw [if_pos rfl, if_neg hr7]
      rw [e1] at HI
      obtain ⟨r0, r1, r2⟩ := rad_facts (hr hok) (by omega)
      have hbb : bendB ⟨#[120]⟩ r 1000 ti = true := bendB_iff.2 ⟨name_x, by omega, by omega, by omega⟩
      have HS1 : Hid (∀ W', Calls Try.prog 13 #[.agg #[.string ⟨#[120]⟩, .int .i64 r, .int .i64 1000, .int .i64 ti], .int .i64 fa] W' fun e w' => e = .returned (.tuple #[.int .i64 (sideI r ti fa), .int .i64 0]) ∧ Below W'.heap.size W' w') := fun W' => by
        have h1 := specSideOf_any ⟨#[120]⟩ r 1000 ti fa (by decide) W'
        obtain ⟨h2, h3⟩ := sof_ok (v := fa) hbb (inB_iff.2 ⟨fa0, fa1⟩)
        rw [h2, h3] at h1
        exact h1
      have HS2 : Hid (∃ LS C : Int, (C = 0 → wi < LS) ∧ ∀ W', Calls Try.prog 13 #[.agg #[.string ⟨#[120]⟩, .int .i64 (r - 1), .int .i64 1000, .int .i64 ti], .int .i64 fa] W' fun e w' => e = .returned (.tuple #[.int .i64 LS, .int .i64 C]) ∧ Below W'.heap.size W' w') := by
        refine ⟨_, _, ?_, fun W' => specSideOf_any ⟨#[120]⟩ (r - 1) 1000 ti fa (by decide) W'⟩
        intro hc
        by_cases h4 : 10000 ≤ r - 1
        · have hb4 : bendB ⟨#[120]⟩ (r - 1) 1000 ti = true := bendB_iff.2 ⟨name_x, by omega, by omega, by omega⟩
          obtain ⟨h2, h3⟩ := sof_ok (v := fa) hb4 (inB_iff.2 ⟨fa0, fa1⟩)
          rw [h3]
          exact r2 h4
        · have hb4 : bendB ⟨#[120]⟩ (r - 1) 1000 ti = false := by
            cases h5 : bendB ⟨#[120]⟩ (r - 1) 1000 ti
            · rfl
            · have := bendB_iff.1 h5; omega
          rw [(sof_bad (v := fa) hb4).1] at hc
          omega
      obtain ⟨LS, C, hLC, hcall⟩ := HS2.out
      have HS3 := Lib.hid hcall
      have HLC := Lib.hid hLC
      have hsw : ¬ wi < sideI r ti fa := by omega
      have hr8 : r ≤ 10000000 := by omega
      clear hcall hLC HS2 hbb r2 r1 e1 hok hr hr7
      generalize sideI r ti fa = SD at *
      go_wp2_with fail
      refine HI.out.mono ?_
      rintro e W2 ⟨rfl, hb2⟩
      have HB2 := Lib.hid (HB1.out.trans (hb2.mono HB1.out.size))
      clear hb2 HI
      go_upto_region 26 with fail
      rename_i K11 hK11 Kc hKc
      have HK := Lib.hid hK11
      clear hK11
      obtain ⟨q0, q1, q2, q3, q4, q5⟩ := boxed4 W2 25 (.string ⟨#[120]⟩) (.int .i64 r) (.int .i64 1000) (.int .i64 ti)
      have HB3 := Lib.hid (HB2.out.trans (q4.mono HB2.out.size))
      have HR3 := Lib.hid (SrcA.RowAt.new W2 25 #[.string ⟨#[120]⟩, .int .i64 r, .int .i64 1000, .int .i64 ti])
      have hg3 := HB2.out.size
      clear q4 q5
      go_wp2_with fail
      generalize W2.alloc (.cells #[.string ⟨#[120]⟩, .int .i64 r, .int .i64 1000, .int .i64 ti] 25) = W3 at *
      generalize W2.heap.size = g at *
      refine (HS1.out _).mono ?_
      rintro e W4 ⟨rfl, hb4⟩
      have HB4 := Lib.hid (HB3.out.trans (hb4.mono HB3.out.size))
      have HR4 := Lib.hid (HR3.out.below hb4)
      clear hb4 q0 q1 q2 q3
      obtain ⟨a0, a1, a2, a3, a4, a5, a6, a7⟩ := BdrA.row4 HR4.out
      have HB5 := Lib.hid (HB4.out.setCell (p := ⟨g, 1, none⟩) hg3 (.int .i64 (r - 1)))
      have HR5 : Hid (SrcA.RowAt (W4.setCell ⟨g, 1, none⟩ (.int .i64 (r - 1))) g 25 #[.string ⟨#[120]⟩, .int .i64 (r - 1), .int .i64 1000, .int .i64 ti]) := HR4.out.store 1 (.int .i64 (r - 1))
      obtain ⟨d0, d1, d2, d3, _⟩ := BdrA.row4 HR5.out
      go_wp2_with fail
      refine (HS3.out _).mono ?_
      rintro e W6 ⟨rfl, hb6⟩
      have HB6 := Lib.hid (HB5.out.trans (hb6.mono HB5.out.size))
      clear hb6 a0 a1 a2 a3 a4 a5 a6 a7 d0 d1 d2 d3
      by_cases hC : C = 0
      · have hlw := HLC.out hC
        have hlw2 : ¬ LS ≤ wi := by omega
        subst hC
        go_wp2_with fail
        refine HK.out _ _ ?_
        exact tail11 _ _ _ _ _ _ _ _ _ _ _ _ _ _ _ _ _ _ _ _ _ _ _ _ _ _ _ _ _ _ _ _ _ _ _ _ _ _ _ _ _ _ _ _ _ _ _ _ _ _ _ _ _ _ _ _ _ _ _ _ _ _ _ _ _ _ _ _ _ _ _ _ _ _ _ _ _ _ _ _ _ _ _ _ _ _ _ _ _ _ _ _ _ _ _ _ _ _ _ _ _ _ _ _ _ _ _ _ _ _ _ _ _ _ _ _ _ _ _ _ _ _ _ _ _ _ _ _ _ _ _ _ _ _ _ _ _ _ _ _ _ _ _ _ _ _ _ _ _ _ _ _ _ _ _ _ _ _ _ _ _ _ _ _ _ _ _ _ _ _ _ _ _ _ _ _ _ _ _ _ _ _ _ _ _ _ _ _ _ _ _ _ _ _ _ _ _ _ _ _ _ _ _ _ _ _ _ _ _ _ _ _ _ _ _ _ _ _ _ _ _ _ _ _ _ _ _ _ _ _ _ _ _ _ _ _ _ _ _ _ _ _ _ _ _ _ _ _ _ _ _ _ _ _ _ _ _ _ _ _ _ _ _ _ _ _ _ _ _ _ _ _ _ A A' n n' c c' w _ HA HA' hn hn' HB6
      · have hC2 : (C == 0) = false := by rw [beq_eq_false_iff_ne]; exact hC
        clear hC
        go_wp2_with fail
        refine HK.out _ _ ?_
        exact tail11 _ _ _ _ _ _ _ _ _ _ _ _ _ _ _ _ _ _ _ _ _ _ _ _ _ _ _ _ _ _ _ _ _ _ _ _ _ _ _ _ _ _ _ _ _ _ _ _ _ _ _ _ _ _ _ _ _ _ _ _ _ _ _ _ _ _ _ _ _ _ _ _ _ _ _ _ _ _ _ _ _ _ _ _ _ _ _ _ _ _ _ _ _ _ _ _ _ _ _ _ _ _ _ _ _ _ _ _ _ _ _ _ _ _ _ _ _ _ _ _ _ _ _ _ _ _ _ _ _ _ _ _ _ _ _ _ _ _ _ _ _ _ _ _ _ _ _ _ _ _ _ _ _ _ _ _ _ _ _ _ _ _ _ _ _ _ _ _ _ _ _ _ _ _ _ _ _ _ _ _ _ _ _ _ _ _ _ _ _ _ _ _ _ _ _ _ _ _ _ _ _ _ _ _ _ _ _ _ _ _ _ _ _ _ _ _ _ _ _ _ _ _ _ _ _ _ _ _ _ _ _ _ _ _ _ _ _ _ _ _ _ _ _ _ _ _ _ _ _ _ _ _ _ _ _ _ _ _ _ _ _ _ _ _ _ _ _ _ _ _ _ _ _ A A' n n' c c' w _ HA HA' hn hn' HB6
end Go.Proofs.Ytmjjobfaboljpaa.BdsB
