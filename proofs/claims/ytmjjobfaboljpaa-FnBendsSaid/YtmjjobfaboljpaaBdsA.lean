/- The last part of the law on bends: the slowest one of a list. -/
import Derived.Test.YtmjjobfaboljpaaBdrC
import Derived.Test.YtmjjobfaboljpaaBdrP
import Derived.Test.YtmjjobfaboljpaaBndD
import Derived.Test.YtmjjobfaboljpaaBndE
import Derived.Test.YtmjjobfaboljpaaBndF
import Derived.Test.YtmjjobfaboljpaaBlsE
import Derived.Test.YtmjjobfaboljpaaWalkG
import Derived.Deep.DeepCutAuto
namespace Go.Proofs.Ytmjjobfaboljpaa.BdsA
set_option maxRecDepth 100000
open Go.RowKit Go.Proofs.Ytmjjobfaboljpaa.Plain Go.Proofs.Ytmjjobfaboljpaa.WalkA Go.Proofs.Ytmjjobfaboljpaa.WalkB Go.Proofs.Ytmjjobfaboljpaa.WalkC Go.Proofs.Ytmjjobfaboljpaa.WalkF Go.Proofs.Ytmjjobfaboljpaa.WalkG Go.Proofs.Ytmjjobfaboljpaa.WalkH Go.Proofs.Ytmjjobfaboljpaa.BndA Go.Proofs.Ytmjjobfaboljpaa.BLaw Go.Proofs.Ytmjjobfaboljpaa.BndC Go.Proofs.Ytmjjobfaboljpaa.BndD Go.Proofs.Ytmjjobfaboljpaa.BndE Go.Proofs.Ytmjjobfaboljpaa.BndF Go.Proofs.Ytmjjobfaboljpaa.BlsA Go.Proofs.Ytmjjobfaboljpaa.BlsD Go.Proofs.Ytmjjobfaboljpaa.BlsE Go.Proofs.Ytmjjobfaboljpaa.BdrB Go.Proofs.Ytmjjobfaboljpaa.BdrC Go.Proofs.Ytmjjobfaboljpaa.BdrP
open Go.Proofs.Ytmjjobfaboljpaa.SrcA (Bys)
/-- The code behind m statements. -/
def dropSeq : Nat → Code → Code
  | 0, c => c
  | n + 1, .seq _ b => dropSeq n b
  | _ + 1, c => c
noncomputable def B : Code := Try.f3.body.getD .skip
set_option maxRecDepth 1000000 in
set_option maxHeartbeats 8000000 in
theorem tail11 (u2 u3 u4 u5 u6 u7 u8 u9 u10 u11 u12 u13 u14 u15 u16 u17 u18 u19 u20 u21 u22 u23 u24 u25 u26 u27 u28 u29 u30 u31 u32 u33 u34 u35 u36 u37 u38 u39 u40 u41 u42 u43 u44 u45 u46 u47 u48 u49 u50 u51 u52 u53 u54 u55 u56 u57 u58 u59 u60 u61 u62 u63 u64 u65 u66 u67 u68 u69 u70 u71 u72 u73 u74 u75 u76 u77 u78 u79 u80 u81 u82 u83 u84 u85 u86 u87 u88 u89 u90 u91 u92 u93 u94 u95 u96 u97 u98 u99 u100 u101 u102 u103 u104 u105 u106 u107 u108 u109 u110 u111 u112 u113 u114 u115 u116 u117 u118 u119 u120 u121 u122 u123 u124 u125 u126 u127 u128 u129 u130 u131 u132 u133 u134 u135 u136 u137 u138 u139 u140 u141 u142 u143 u144 u145 u146 u147 u148 u149 u150 u151 u152 u153 u154 u155 u156 u157 u158 u159 u160 u161 u162 u163 u164 u165 u166 u167 u168 u169 u170 u171 u172 u173 u174 u175 u176 u177 u178 u179 u180 u181 u182 u183 u184 u185 u186 u187 u188 u189 u190 u191 u192 u193 u194 u195 u196 u197 u198 u199 u200 u201 u202 u203 u204 u205 u206 u207 u208 u209 u210 u211 u212 u213 u214 u215 u216 u217 u218 u219 u220 u221 u222 u223 u224 u225 u226 u227 u228 u229 u230 u231 u232 u233 u234 u235 u236 u237 u238 u239 u240 u241 u242 u243 u244 u245 u246 u247 u248 u249 u250 u251 u252 u253 u254 u255 u256 u257 u258 u259 u260 u261 u262 u263 u264 u265 u266 u267 u268 u269 u270 u271 u272 u273 u274 : Value) (A A' : Option Addr) (n n' c c' : Nat) (w W : World) (_HA : Hid (Bys w w.heap.size A n)) (HA' : Hid (Bys w w.heap.size A' n')) (_hn : n ≤ 1048576) (hn' : n' ≤ 1048576) (HB0 : Hid (Below w.heap.size w W)) :
    Code.wp Try.prog (dropSeq 11 B) (bodyPost Try.prog Try.f3 fun e w' => e = .returned (.bool true) ∧ Below w.heap.size w w') ⟨#[.slice A n c, .slice A' n' c', u2, u3, u4, u5, u6, u7, u8, u9, u10, u11, u12, u13, u14, u15, u16, u17, u18, u19, u20, u21, u22, u23, u24, u25, u26, u27, u28, u29, u30, u31, u32, u33, u34, u35, u36, u37, u38, u39, u40, u41, u42, u43, u44, u45, u46, u47, u48, u49, u50, u51, u52, u53, u54, u55, u56, u57, u58, u59, u60, u61, u62, u63, u64, u65, u66, u67, u68, u69, u70, u71, u72, u73, u74, u75, u76, u77, u78, u79, u80, u81, u82, u83, u84, u85, u86, u87, u88, u89, u90, u91, u92, u93, u94, u95, u96, u97, u98, u99, u100, u101, u102, u103, u104, u105, u106, u107, u108, u109, u110, u111, u112, u113, u114, u115, u116, u117, u118, u119, u120, u121, u122, u123, u124, u125, u126, u127, u128, u129, u130, u131, u132, u133, u134, u135, u136, u137, u138, u139, u140, u141, u142, u143, u144, u145, u146, u147, u148, u149, u150, u151, u152, u153, u154, u155, u156, u157, u158, u159, u160, u161, u162, u163, u164, u165, u166, u167, u168, u169, u170, u171, u172, u173, u174, u175, u176, u177, u178, u179, u180, u181, u182, u183, u184, u185, u186, u187, u188, u189, u190, u191, u192, u193, u194, u195, u196, u197, u198, u199, u200, u201, u202, u203, u204, u205, u206, u207, u208, u209, u210, u211, u212, u213, u214, u215, u216, u217, u218, u219, u220, u221, u222, u223, u224, u225, u226, u227, u228, u229, u230, u231, u232, u233, u234, u235, u236, u237, u238, u239, u240, u241, u242, u243, u244, u245, u246, u247, u248, u249, u250, u251, u252, u253, u254, u255, u256, u257, u258, u259, u260, u261, u262, u263, u264, u265, u266, u267, u268, u269, u270, u271, u272, u273, u274], []⟩ W := by
  have HD := Lib.hid (drawSlowest_any A' n' c' W (HA'.out.below HB0.out HB0.out.size) hn')
  conv => arg 2; whnf
  go_wp2_with fail
  refine HD.out.mono ?_
  rintro e W1 ⟨v, bl, m, rfl, hl, ho, hb⟩
  have HB1 := Lib.hid (HB0.out.trans (hb.mono HB0.out.size))
  obtain ⟨A3, c3, rfl, hbn⟩ := ho.bnds
  have HN := Lib.hid hbn
  have HI := Lib.hid (implSlow_any A3 bl.length c3 bl m W1 hbn (by omega))
  clear ho hbn hb HD _HA HA'
  cases hok : slowOk bl m
  · have hz : slowA bl m = 0 ∧ slowB bl m = 0 ∧ slowC bl m ≠ 0 := by
      unfold slowA slowB slowC slowOk at *
      rw [hok]
      refine ⟨rfl, rfl, ?_⟩
      cases h1 : listB bl
      · simp
      · cases h2 : inB m 0 5000
        · simp
        · by_cases h3 : 0 < bl.length
          · rw [h1, h2, decide_eq_true h3] at hok; cases hok
          · simp [h3]
    obtain ⟨z1, z2, z3⟩ := hz
    rw [z1, z2] at HI
    have hne : (slowC bl m == 0) = false := by rw [beq_eq_false_iff_ne]; exact z3
    clear z1 z2 z3 hok
    generalize slowC bl m = C at *
    go_wp2_with fail
    refine HI.out.mono ?_
    rintro e W2 ⟨rfl, hb2⟩
    have HB2 := Lib.hid (HB1.out.trans (hb2.mono HB1.out.size))
    clear hb2
    go_wp2_with fail
    go_ret
    exact ⟨rfl, HB2.out⟩
  · have hok2 : listB bl = true ∧ inB m 0 5000 = true ∧ 0 < bl.length := by
      unfold slowOk at hok
      rw [Bool.and_eq_true, Bool.and_eq_true, decide_eq_true_eq] at hok
      exact hok
    obtain ⟨h1, h2, h3⟩ := hok2
    obtain ⟨z1, z2, z3⟩ := slow_ok h1 h2 h3
    rw [z1, z2, z3] at HI
    obtain ⟨f1, f2⟩ := slow_facts (x := m) h3
    have hm0 := (inB_iff.1 h2).1
    have HC : Hid (∀ W' i, Below W1.heap.size W1 W' → i < bl.length → Calls Try.prog 16 #[.agg #[.string (bAt bl i).s, .int .i64 (bAt bl i).r, .int .i64 (bAt bl i).l, .int .i64 (bAt bl i).c], .int .i64 m] W' fun e w' => e = .returned (.tuple #[.int .i64 (spdI bl m i), .int .i64 0]) ∧ Below W'.heap.size W' w') := fun W' i hW hi => by
      have h4 := specSpeedIn_any (bAt bl i).s (bAt bl i).r (bAt bl i).l (bAt bl i).c m (HN.out.2.1 i hi) W'
      have h5 : bendB (bAt bl i).s (bAt bl i).r (bAt bl i).l (bAt bl i).c = true := listB_at h1 i hi
      rw [h5, h2] at h4
      have h6 : spdI bl m i = spdT (bAt bl i).r (bAt bl i).c m - 1 := by unfold spdI; rfl
      rw [h6]
      exact h4
    have HSB := Lib.hid (fun i hi => spdI_bd h1 hm0 i hi)
    have HF2 := Lib.hid f2
    obtain ⟨KK, hKK⟩ : ∃ KK, KK = slowTo bl m bl.length := ⟨_, rfl⟩
    rw [← hKK] at HI HF2 f1
    obtain ⟨LS, hLS⟩ : ∃ LS, LS = spdI bl m KK := ⟨_, rfl⟩
    rw [← hLS] at HI HF2
    have HLS := Lib.hid hLS
    have hlb := spdI_bd h1 hm0 KK f1
    rw [← hLS] at hlb
    clear hKK hLS z1 z2 z3 hok h1 h2 f2 hm0
    have hk1 : ¬ (KK : Int) < 0 := by omega
    have hk2 : ¬ (bl.length : Int) ≤ (KK : Int) := by omega
    have hk3 : ¬ bl.length ≤ KK := by omega
    have hk4 : decide (bl.length ≤ KK) = false := decide_eq_false hk3
    have hk5 : decide ((KK : Int) < 0) = false := decide_eq_false hk1
    go_wp2_with fail
    refine HI.out.mono ?_
    rintro e W2 ⟨rfl, hb2⟩
    have HB2 := Lib.hid (HB1.out.trans (hb2.mono HB1.out.size))
    have HW2 := Lib.hid hb2
    clear hb2
    go_wp2_with fail
    go_loopw [40] (fun i wr => ∃ k : Nat, k ≤ bl.length ∧ i = .int .i64 k ∧ Hid (Below W1.heap.size W1 wr) ∧ Hid (Below w.heap.size w wr)) (fun i _ => bl.length - (intOf i).toNat)
    case atStart => exact ⟨0, Nat.zero_le _, rfl, HW2, HB2⟩
    case round =>
      obtain ⟨k, hk, rfl, HW, HBr⟩ := hrel
      by_cases hlt : k < bl.length
      · obtain ⟨-, -, hcell⟩ := HN.out.below HW.out HW.out.size
        obtain ⟨g, off, rfl, hg, hc⟩ := hcell (by omega)
        obtain ⟨q0, q1, q2, q3⟩ := hc k hlt
        have HCk := Lib.hid (HC.out wr k HW.out hlt)
        have hb1 := HSB.out k hlt
        have hf := HF2.out k hlt
        have HLSk : Hid (k = KK → spdI bl m k = LS) := fun h => by rw [h]; exact HLS.out.symm
        clear hc hcell
        generalize spdI bl m k = VK at *
        generalize (bAt bl k).s = xs at *
        generalize (bAt bl k).r = xr at *
        generalize (bAt bl k).l = xl at *
        generalize (bAt bl k).c = xc at *
        obtain ⟨hf1, hf2⟩ := hf
        obtain ⟨hb1, hb2⟩ := hb1
        have hv1 : ¬ VK < LS := by omega
        rcases Nat.lt_trichotomy k KK with ht | ht | ht
        · have hv2 := hf2 ht
          have hv3 : (VK == LS) = false := by rw [beq_eq_false_iff_ne]; omega
          have hv4 : ((k : Int) == (KK : Int)) = false := by rw [beq_eq_false_iff_ne]; omega
          have hv5 : (k : Int) < (KK : Int) := by omega
          clear hf2 hf1
          go_wp2_with fail
          refine HCk.out.mono ?_
          rintro e W5 ⟨rfl, hb5⟩
          have HWn := Lib.hid (HW.out.trans (hb5.mono HW.out.size))
          have HBn := Lib.hid (HBr.out.trans (hb5.mono HBr.out.size))
          clear hb5
          go_wp2_with fail
          go_roundw
          case rel => exact ⟨k + 1, by omega, by go_num, HWn, HBn⟩
          case measure => simp [intOf]; omega
        · have hve := HLSk.out ht
          have hv6 : ¬ (k : Int) < (KK : Int) := by omega
          subst ht
          subst hve
          clear hf2 HLSk
          go_wp2_with fail
          refine HCk.out.mono ?_
          rintro e W5 ⟨rfl, hb5⟩
          have HWn := Lib.hid (HW.out.trans (hb5.mono HW.out.size))
          have HBn := Lib.hid (HBr.out.trans (hb5.mono HBr.out.size))
          clear hb5
          go_wp2_with fail
          go_roundw
          case rel => exact ⟨k + 1, by omega, by go_num, HWn, HBn⟩
          case measure => simp [intOf]; omega
        · have hv4 : ((k : Int) == (KK : Int)) = false := by rw [beq_eq_false_iff_ne]; omega
          have hv6 : ¬ (k : Int) < (KK : Int) := by omega
          clear hf2
          go_wp2_with fail
          refine HCk.out.mono ?_
          rintro e W5 ⟨rfl, hb5⟩
          have HWn := Lib.hid (HW.out.trans (hb5.mono HW.out.size))
          have HBn := Lib.hid (HBr.out.trans (hb5.mono HBr.out.size))
          clear hb5
          go_wp2_with fail
          go_roundw
          case rel => exact ⟨k + 1, by omega, by go_num, HWn, HBn⟩
          case measure => simp [intOf]; omega
      · go_wp2_with fail
        go_ret
        exact ⟨rfl, HBr.out⟩
end Go.Proofs.Ytmjjobfaboljpaa.BdsA
