/- The second part of the law on bends: the least cant. -/
import Derived.Test.YtmjjobfaboljpaaBdsA
import Derived.Test.YtmjjobfaboljpaaBdsB
import Derived.Test.YtmjjobfaboljpaaBdrC
import Derived.Test.YtmjjobfaboljpaaBdrP
import Derived.Test.YtmjjobfaboljpaaBndD
import Derived.Test.YtmjjobfaboljpaaBndE
import Derived.Test.YtmjjobfaboljpaaBndF
import Derived.Test.YtmjjobfaboljpaaBlsE
import Derived.Test.YtmjjobfaboljpaaWalkG
import Derived.Deep.DeepCutAuto
namespace Go.Proofs.Ytmjjobfaboljpaa.BdsC
set_option maxRecDepth 100000
open Go.Proofs.Ytmjjobfaboljpaa.BdsA Go.Proofs.Ytmjjobfaboljpaa.BdsB Go.RowKit Go.Proofs.Ytmjjobfaboljpaa.Plain Go.Proofs.Ytmjjobfaboljpaa.WalkA Go.Proofs.Ytmjjobfaboljpaa.WalkB Go.Proofs.Ytmjjobfaboljpaa.WalkC Go.Proofs.Ytmjjobfaboljpaa.WalkF Go.Proofs.Ytmjjobfaboljpaa.WalkG Go.Proofs.Ytmjjobfaboljpaa.WalkH Go.Proofs.Ytmjjobfaboljpaa.BndA Go.Proofs.Ytmjjobfaboljpaa.BLaw Go.Proofs.Ytmjjobfaboljpaa.BndC Go.Proofs.Ytmjjobfaboljpaa.BndD Go.Proofs.Ytmjjobfaboljpaa.BndE Go.Proofs.Ytmjjobfaboljpaa.BndF Go.Proofs.Ytmjjobfaboljpaa.BlsA Go.Proofs.Ytmjjobfaboljpaa.BlsD Go.Proofs.Ytmjjobfaboljpaa.BlsE Go.Proofs.Ytmjjobfaboljpaa.BdrB Go.Proofs.Ytmjjobfaboljpaa.BdrC Go.Proofs.Ytmjjobfaboljpaa.BdrP
open Go.Proofs.Ytmjjobfaboljpaa.SrcA (Bys)
set_option maxRecDepth 1000000 in
set_option maxHeartbeats 8000000 in
theorem tail5 (u2 u3 u4 u5 u6 u7 u8 u9 u10 u11 u12 u13 u14 u15 u16 u17 u18 u19 u20 u21 u22 u23 u24 u25 u26 u27 u28 u29 u30 u31 u32 u33 u34 u35 u36 u37 u38 u39 u40 u41 u42 u43 u44 u45 u46 u47 u48 u49 u50 u51 u52 u53 u54 u55 u56 u57 u58 u59 u60 u61 u62 u63 u64 u65 u66 u67 u68 u69 u70 u71 u72 u73 u74 u75 u76 u77 u78 u79 u80 u81 u82 u83 u84 u85 u86 u87 u88 u89 u90 u91 u92 u93 u94 u95 u96 u97 u98 u99 u100 u101 u102 u103 u104 u105 u106 u107 u108 u109 u110 u111 u112 u113 u114 u115 u116 u117 u118 u119 u120 u121 u122 u123 u124 u125 u126 u127 u128 u129 u130 u131 u132 u133 u134 u135 u136 u137 u138 u139 u140 u141 u142 u143 u144 u145 u146 u147 u148 u149 u150 u151 u152 u153 u154 u155 u156 u157 u158 u159 u160 u161 u162 u163 u164 u165 u166 u167 u168 u169 u170 u171 u172 u173 u174 u175 u176 u177 u178 u179 u180 u181 u182 u183 u184 u185 u186 u187 u188 u189 u190 u191 u192 u193 u194 u195 u196 u197 u198 u199 u200 u201 u202 u203 u204 u205 u206 u207 u208 u209 u210 u211 u212 u213 u214 u215 u216 u217 u218 u219 u220 u221 u222 u223 u224 u225 u226 u227 u228 u229 u230 u231 u232 u233 u234 u235 u236 u237 u238 u239 u240 u241 u242 u243 u244 u245 u246 u247 u248 u249 u250 u251 u252 u253 u254 u255 u256 u257 u258 u259 u260 u261 u262 u263 u264 u265 u266 u267 u268 u269 u270 u271 u272 u273 u274 : Value) (A A' : Option Addr) (n n' c c' : Nat) (w W : World) (HA : Hid (Bys w w.heap.size A n)) (HA' : Hid (Bys w w.heap.size A' n')) (hn : n ≤ 1048576) (hn' : n' ≤ 1048576) (HB0 : Hid (Below w.heap.size w W)) :
    Code.wp Try.prog (dropSeq 5 B) (bodyPost Try.prog Try.f3 fun e w' => e = .returned (.bool true) ∧ Below w.heap.size w w') ⟨#[.slice A n c, .slice A' n' c', u2, u3, u4, u5, u6, u7, u8, u9, u10, u11, u12, u13, u14, u15, u16, u17, u18, u19, u20, u21, u22, u23, u24, u25, u26, u27, u28, u29, u30, u31, u32, u33, u34, u35, u36, u37, u38, u39, u40, u41, u42, u43, u44, u45, u46, u47, u48, u49, u50, u51, u52, u53, u54, u55, u56, u57, u58, u59, u60, u61, u62, u63, u64, u65, u66, u67, u68, u69, u70, u71, u72, u73, u74, u75, u76, u77, u78, u79, u80, u81, u82, u83, u84, u85, u86, u87, u88, u89, u90, u91, u92, u93, u94, u95, u96, u97, u98, u99, u100, u101, u102, u103, u104, u105, u106, u107, u108, u109, u110, u111, u112, u113, u114, u115, u116, u117, u118, u119, u120, u121, u122, u123, u124, u125, u126, u127, u128, u129, u130, u131, u132, u133, u134, u135, u136, u137, u138, u139, u140, u141, u142, u143, u144, u145, u146, u147, u148, u149, u150, u151, u152, u153, u154, u155, u156, u157, u158, u159, u160, u161, u162, u163, u164, u165, u166, u167, u168, u169, u170, u171, u172, u173, u174, u175, u176, u177, u178, u179, u180, u181, u182, u183, u184, u185, u186, u187, u188, u189, u190, u191, u192, u193, u194, u195, u196, u197, u198, u199, u200, u201, u202, u203, u204, u205, u206, u207, u208, u209, u210, u211, u212, u213, u214, u215, u216, u217, u218, u219, u220, u221, u222, u223, u224, u225, u226, u227, u228, u229, u230, u231, u232, u233, u234, u235, u236, u237, u238, u239, u240, u241, u242, u243, u244, u245, u246, u247, u248, u249, u250, u251, u252, u253, u254, u255, u256, u257, u258, u259, u260, u261, u262, u263, u264, u265, u266, u267, u268, u269, u270, u271, u272, u273, u274], []⟩ W := by
  have HD := Lib.hid (drawCantFor_any A' n' c' W (HA'.out.below HB0.out HB0.out.size) hn')
  conv => arg 2; whnf
  go_wp2_with fail
  refine HD.out.mono ?_
  rintro e W1 ⟨s, r, l, cc, sp, li, hss, rfl, hb⟩
  have HB1 := Lib.hid (HB0.out.trans (hb.mono HB0.out.size))
  have hz : s.size ≤ 9223372036854775807 := by omega
  have HI := Lib.hid (fun W' => implCantFor_any s r l cc sp li hz W')
  obtain ⟨q0, q1, q2, q3, q4, q5⟩ := boxed4 W1 25 (.string s) (.int .i64 r) (.int .i64 l) (.int .i64 cc)
  have HB2 := Lib.hid (HB1.out.trans (q4.mono HB1.out.size))
  have hg1 : W1.heap.size < (W1.alloc (.cells #[.string s, .int .i64 r, .int .i64 l, .int .i64 cc] 25)).heap.size := by omega
  clear q4 q5 hb HD
  by_cases hok : cfC s r l cc sp li = 0
  · have hv : bendB s r l cc = true ∧ inB sp 0 20000 = true ∧ inB li 0 5000 = true ∧ cantN r sp li < 201 := by
      unfold cfC at hok
      cases h1 : bendB s r l cc
      · rw [h1] at hok; simp at hok
      · cases h2 : (inB sp 0 20000 && inB li 0 5000)
        · rw [h1, h2] at hok; simp at hok
        · rw [Bool.and_eq_true] at h2
          by_cases h3 : cantN r sp li < 201
          · exact ⟨rfl, h2.1, h2.2, h3⟩
          · rw [h1, h2.1, h2.2] at hok; simp [h3] at hok
    obtain ⟨v1, v2, v3, v4⟩ := hv
    have hcv : cfV s r l cc sp li = (cantN r sp li : Int) := by unfold cfV; rw [if_pos hok]
    rw [hok, hcv] at HI
    obtain ⟨CN, hCN⟩ : ∃ CN, CN = (cantN r sp li : Int) := ⟨_, rfl⟩
    obtain ⟨c1, c2⟩ := cant_facts v4
    rw [← hCN] at HI c1 c2
    have hCN1 : 0 ≤ CN ∧ CN ≤ 200 := by omega
    obtain ⟨b0, b1, b2, b3⟩ := bendB_iff.1 v1
    have HS1 : Hid (∀ W', Calls Try.prog 7 #[.agg #[.string s, .int .i64 r, .int .i64 l, .int .i64 CN], .int .i64 sp] W' fun e w' => e = .returned (.tuple #[.int .i64 (sideI r CN sp), .int .i64 0]) ∧ Below W'.heap.size W' w') := fun W' => by
      have h1 := implSideOf_any s r l CN sp hz W'
      obtain ⟨h2, h3⟩ := sof_ok (v := sp) (bendB_iff.2 ⟨b0, b1, b2, hCN1⟩) v2
      rw [h2, h3] at h1
      exact h1
    have HS2 : Hid (0 < CN → ∀ W', Calls Try.prog 7 #[.agg #[.string s, .int .i64 r, .int .i64 l, .int .i64 (CN - 1)], .int .i64 sp] W' fun e w' => e = .returned (.tuple #[.int .i64 (sideI r (CN - 1) sp), .int .i64 0]) ∧ Below W'.heap.size W' w') := fun hp W' => by
      have h1 := implSideOf_any s r l (CN - 1) sp hz W'
      obtain ⟨h2, h3⟩ := sof_ok (v := sp) (c := CN - 1) (bendB_iff.2 ⟨b0, b1, b2, by omega⟩) v2
      rw [h2, h3] at h1
      exact h1
    have HC2 := Lib.hid c2
    have hc1 : ¬ li < sideI r CN sp := by omega
    obtain ⟨hcn0, hcn1⟩ := hCN1
    clear hok hcv hCN c1 c2 v1 v2 v3 v4 b0 b1 b2 b3 hz hss
    generalize sideI r CN sp = S1 at *
    generalize sideI r (CN - 1) sp = S2 at *
    go_wp2_with fail
    generalize W1.alloc (.cells #[.string s, .int .i64 r, .int .i64 l, .int .i64 cc] 25) = W2 at *
    generalize W1.heap.size = g1 at *
    refine (HI.out _).mono ?_
    rintro e W3 ⟨rfl, hb3⟩
    have HB3 := Lib.hid (HB2.out.trans (hb3.mono HB2.out.size))
    have e0 := (hb3.cell (p := ⟨g1, 0, none⟩) hg1).trans q0
    have e1 := (hb3.cell (p := ⟨g1, 1, none⟩) hg1).trans q1
    have e2 := (hb3.cell (p := ⟨g1, 2, none⟩) hg1).trans q2
    have e3 := (hb3.cell (p := ⟨g1, 3, none⟩) hg1).trans q3
    clear hb3 q0 q1 q2 q3 HI
    go_upto_region 13 with fail
    rename_i K8 hK8 Kc hKc
    have HK := Lib.hid hK8
    clear hK8
    have HR4 := Lib.hid (SrcA.RowAt.new W3 25 #[.string s, .int .i64 r, .int .i64 l, .int .i64 CN])
    have HB4 := Lib.hid (HB3.out.trans (((Below.refl W3.heap.size W3).alloc (Nat.le_refl _) (.cells #[.string s, .int .i64 r, .int .i64 l, .int .i64 CN] 25)).mono HB3.out.size))
    have hg3 := HB3.out.size
    go_wp2_with fail
    generalize W3.alloc (.cells #[.string s, .int .i64 r, .int .i64 l, .int .i64 CN] 25) = W4 at *
    generalize W3.heap.size = g at *
    refine (HS1.out _).mono ?_
    rintro e W5 ⟨rfl, hb5⟩
    have HB5 := Lib.hid (HB4.out.trans (hb5.mono HB4.out.size))
    have HR5 := Lib.hid (HR4.out.below hb5)
    clear hb5 e0 e1 e2 e3
    obtain ⟨a0, a1, a2, a3, a4, a5, a6, a7⟩ := BdrA.row4 HR5.out
    by_cases hpos : 0 < CN
    · have HS3 := Lib.hid (HS2.out hpos)
      have hlw := HC2.out hpos
      have hlw2 : ¬ S2 ≤ li := by omega
      have HB6 := Lib.hid (HB5.out.setCell (p := ⟨g, 3, none⟩) hg3 (.int .i64 (CN - 1)))
      have HR6 : Hid (SrcA.RowAt (W5.setCell ⟨g, 3, none⟩ (.int .i64 (CN - 1))) g 25 #[.string s, .int .i64 r, .int .i64 l, .int .i64 (CN - 1)]) := HR5.out.store 3 (.int .i64 (CN - 1))
      obtain ⟨d0, d1, d2, d3, _⟩ := BdrA.row4 HR6.out
      clear HS2 HC2
      go_wp2_with fail
      refine (HS3.out _).mono ?_
      rintro e W7 ⟨rfl, hb7⟩
      have HB7 := Lib.hid (HB6.out.trans (hb7.mono HB6.out.size))
      clear hb7 a0 a1 a2 a3 a4 a5 a6 a7 d0 d1 d2 d3
      go_wp2_with fail
      refine HK.out _ _ ?_
      exact tail8 _ _ _ _ _ _ _ _ _ _ _ _ _ _ _ _ _ _ _ _ _ _ _ _ _ _ _ _ _ _ _ _ _ _ _ _ _ _ _ _ _ _ _ _ _ _ _ _ _ _ _ _ _ _ _ _ _ _ _ _ _ _ _ _ _ _ _ _ _ _ _ _ _ _ _ _ _ _ _ _ _ _ _ _ _ _ _ _ _ _ _ _ _ _ _ _ _ _ _ _ _ _ _ _ _ _ _ _ _ _ _ _ _ _ _ _ _ _ _ _ _ _ _ _ _ _ _ _ _ _ _ _ _ _ _ _ _ _ _ _ _ _ _ _ _ _ _ _ _ _ _ _ _ _ _ _ _ _ _ _ _ _ _ _ _ _ _ _ _ _ _ _ _ _ _ _ _ _ _ _ _ _ _ _ _ _ _ _ _ _ _ _ _ _ _ _ _ _ _ _ _ _ _ _ _ _ _ _ _ _ _ _ _ _ _ _ _ _ _ _ _ _ _ _ _ _ _ _ _ _ _ _ _ _ _ _ _ _ _ _ _ _ _ _ _ _ _ _ _ _ _ _ _ _ _ _ _ _ _ _ _ _ _ _ _ _ _ _ _ _ _ _ _ A A' n n' c c' w _ HA HA' hn hn' HB7
    · clear HS2 HC2
      go_wp2_with fail
      refine HK.out _ _ ?_
      exact tail8 _ _ _ _ _ _ _ _ _ _ _ _ _ _ _ _ _ _ _ _ _ _ _ _ _ _ _ _ _ _ _ _ _ _ _ _ _ _ _ _ _ _ _ _ _ _ _ _ _ _ _ _ _ _ _ _ _ _ _ _ _ _ _ _ _ _ _ _ _ _ _ _ _ _ _ _ _ _ _ _ _ _ _ _ _ _ _ _ _ _ _ _ _ _ _ _ _ _ _ _ _ _ _ _ _ _ _ _ _ _ _ _ _ _ _ _ _ _ _ _ _ _ _ _ _ _ _ _ _ _ _ _ _ _ _ _ _ _ _ _ _ _ _ _ _ _ _ _ _ _ _ _ _ _ _ _ _ _ _ _ _ _ _ _ _ _ _ _ _ _ _ _ _ _ _ _ _ _ _ _ _ _ _ _ _ _ _ _ _ _ _ _ _ _ _ _ _ _ _ _ _ _ _ _ _ _ _ _ _ _ _ _ _ _ _ _ _ _ _ _ _ _ _ _ _ _ _ _ _ _ _ _ _ _ _ _ _ _ _ _ _ _ _ _ _ _ _ _ _ _ _ _ _ _ _ _ _ _ _ _ _ _ _ _ _ _ _ _ _ _ _ _ _ A A' n n' c c' w _ HA HA' hn hn' HB5
  · have hok2 : (cfC s r l cc sp li == 0) = false := by rw [beq_eq_false_iff_ne]; exact hok
    clear hok
    generalize cfC s r l cc sp li = C at *
    generalize cfV s r l cc sp li = V at *
    go_wp2_with fail
    generalize W1.alloc (.cells #[.string s, .int .i64 r, .int .i64 l, .int .i64 cc] 25) = W2 at *
    refine (HI.out _).mono ?_
    rintro e W3 ⟨rfl, hb3⟩
    have HB3 := Lib.hid (HB2.out.trans (hb3.mono HB2.out.size))
    clear hb3 HI q0 q1 q2 q3
    go_upto_region 13 with fail
    rename_i K8 hK8 Kc hKc
    have HK := Lib.hid hK8
    clear hK8
    go_wp2_with fail
    refine HK.out _ _ ?_
    exact tail8 _ _ _ _ _ _ _ _ _ _ _ _ _ _ _ _ _ _ _ _ _ _ _ _ _ _ _ _ _ _ _ _ _ _ _ _ _ _ _ _ _ _ _ _ _ _ _ _ _ _ _ _ _ _ _ _ _ _ _ _ _ _ _ _ _ _ _ _ _ _ _ _ _ _ _ _ _ _ _ _ _ _ _ _ _ _ _ _ _ _ _ _ _ _ _ _ _ _ _ _ _ _ _ _ _ _ _ _ _ _ _ _ _ _ _ _ _ _ _ _ _ _ _ _ _ _ _ _ _ _ _ _ _ _ _ _ _ _ _ _ _ _ _ _ _ _ _ _ _ _ _ _ _ _ _ _ _ _ _ _ _ _ _ _ _ _ _ _ _ _ _ _ _ _ _ _ _ _ _ _ _ _ _ _ _ _ _ _ _ _ _ _ _ _ _ _ _ _ _ _ _ _ _ _ _ _ _ _ _ _ _ _ _ _ _ _ _ _ _ _ _ _ _ _ _ _ _ _ _ _ _ _ _ _ _ _ _ _ _ _ _ _ _ _ _ _ _ _ _ _ _ _ _ _ _ _ _ _ _ _ _ _ _ _ _ _ _ _ _ _ _ _ _ A A' n n' c c' w _ HA HA' hn hn' HB3
end Go.Proofs.Ytmjjobfaboljpaa.BdsC
