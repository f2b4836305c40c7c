/- The last part of the law on grinding: the seconds of the bends, and their texts read back. -/
import Derived.Test.YtlknncmnphbpkaaGreatDoorGrdA
import Derived.Test.YtlknncmnphbpkaaGreatDoorGrdP
import Derived.Deep.QuietTactic
import Derived.BigQuiet
namespace Go.Proofs.YtlknncmnphbpkaaGreatDoor.GrdS
open Go.Proofs.YtlknncmnphbpkaaGreatDoor.GrdA Go.Proofs.YtlknncmnphbpkaaGreatDoor.GrdP Go.Proofs.YtlknncmnphbpkaaGreatDoor.TxtT Go.Proofs.YtlknncmnphbpkaaGreatDoor.TxtP Go.Proofs.YtlknncmnphbpkaaGreatDoor.TxtX Go.Proofs.YtlknncmnphbpkaaGreatDoor.RbA Go.Proofs.YtlknncmnphbpkaaGreatDoor.TxtI
set_option maxRecDepth 100000
open Go.RowKit Go.Proofs.YtlknncmnphbpkaaGreatDoor.Plain Go.Proofs.YtlknncmnphbpkaaGreatDoor.WalkC Go.Proofs.YtlknncmnphbpkaaGreatDoor.WalkH Go.Proofs.YtlknncmnphbpkaaGreatDoor.BndA Go.Proofs.YtlknncmnphbpkaaGreatDoor.BndC Go.Proofs.YtlknncmnphbpkaaGreatDoor.BndE Go.Proofs.YtlknncmnphbpkaaGreatDoor.BndF Go.Proofs.YtlknncmnphbpkaaGreatDoor.BndG Go.Proofs.YtlknncmnphbpkaaGreatDoor.BlsA Go.Proofs.YtlknncmnphbpkaaGreatDoor.BlsD Go.Proofs.YtlknncmnphbpkaaGreatDoor.BlsE Go.Proofs.YtlknncmnphbpkaaGreatDoor.BdrB Go.Proofs.YtlknncmnphbpkaaGreatDoor.BdrC Go.Proofs.YtlknncmnphbpkaaGreatDoor.BdrD
open Go.Proofs.YtlknncmnphbpkaaGreatDoor.SrcA (Bys)
set_option maxRecDepth 1000000 in
set_option maxHeartbeats 8000000 in
theorem part8 (A A' : Option Addr) (n n' c c' : Nat) (w : World) (HA : Hid (Bys w w.heap.size A n)) (hn : n ≤ 1048576) (HSH : Hid (Shp w)) (HEN : Hid (Env w)) : RestG 8 A A' n n' c c' w := by
  unfold RestG
  intro u2 u3 u4 u5 u6 u7 u8 u9 u10 u11 u12 u13 u14 u15 u16 u17 u18 u19 u20 u21 u22 u23 u24 u25 u26 u27 u28 u29 u30 u31 u32 u33 u34 u35 u36 u37 u38 u39 u40 u41 u42 u43 u44 u45 u46 u47 u48 u49 u50 u51 u52 u53 u54 u55 u56 u57 u58 u59 u60 u61 u62 u63 u64 u65 u66 u67 u68 u69 u70 u71 u72 u73 u74 u75 u76 u77 u78 u79 u80 u81 u82 u83 u84 u85 u86 u87 u88 u89 u90 u91 u92 u93 u94 u95 u96 u97 u98 u99 u100 u101 u102 u103 u104 u105 u106 u107 u108 u109 u110 u111 u112 u113 u114 u115 u116 u117 u118 u119 u120 u121 u122 u123 u124 u125 u126 u127 u128 u129 u130 u131 u132 u133 u134 u135 u136 u137 u138 u139 u140 u141 u142 u143 u144 u145 u146 u147 u148 u149 u150 u151 u152 u153 u154 u155 u156 u157 u158 u159 u160 u161 u162 u163 u164 u165 u166 u167 u168 u169 u170 u171 u172 u173 u174 u175 u176 u177 u178 u179 u180 u181 u182 u183 u184 u185 u186 u187 u188 u189 u190 u191 u192 u193 u194 u195 u196 u197 u198 u199 u200 u201 u202 u203 u204 u205 u206 u207 u208 u209 u210 u211 u212 u213 u214 u215 u216 u217 u218 u219 u220 u221 u222 u223 u224 u225 u226 u227 u228 u229 u230 u231 u232 u233 u234 u235 u236 u237 u238 u239 u240 u241 u242 u243 u244 u245 u246 u247 u248 u249 u250 u251 u252 u253 u254 u255 u256 u257 u258 u259 u260 u261 u262 u263 u264 W HB0
  have HD := Lib.hid (drawSeconds_any A n c W (HA.out.below HB0.out HB0.out.size) hn)
  conv => arg 2; whnf
  go_wp2_with fail
  refine HD.out.mono ?_
  rintro e W1 ⟨v, bl, m, rfl, hl, ho, hb⟩
  have HB1 := Lib.hid (HB0.out.trans (hb.mono HB0.out.size))
  obtain ⟨A3, c3, rfl, hbn⟩ := ho.bnds
  have HN := Lib.hid hbn
  have HI := Lib.hid (implLast_any A3 bl.length c3 bl m W1 hbn (by omega))
  clear ho hbn hb HD HA
  by_cases hok : lastC bl m = 0
  · have hok2 : listB bl = true ∧ inB m 0 5000 = true ∧ halt bl m bl.length = false := by
      unfold lastC at hok
      cases h1 : listB bl
      · rw [h1] at hok; simp at hok
      · cases h2 : inB m 0 5000
        · rw [h1, h2] at hok; simp at hok
        · cases h3 : halt bl m bl.length
          · exact ⟨rfl, rfl, rfl⟩
          · rw [h1, h2, h3] at hok; simp at hok
    obtain ⟨h1, h2, h3⟩ := hok2
    obtain ⟨z1, z2⟩ := last_ok h1 h2 h3
    rw [z1, z2] at HI
    have hm0 := (inB_iff.1 h2).1
    have h12 := listB_len h1
    have HBD := Lib.hid (fun i hi => listB_bd h1 i hi)
    have HSD := Lib.hid (fun i hi => spdI_bd h1 hm0 i hi)
    have HHK : Hid (∀ k, k ≤ bl.length → halt bl m k = false) := fun k hk => by
      cases h4 : halt bl m k
      · rfl
      · rw [halt_up h4 hk] at h3; cases h3
    have HST := Lib.hid (fun k hk => secTo_bd h1 hm0 k hk (HHK.out k hk))
    have HS1 : Hid (∀ k, k < bl.length → 1 ≤ spdI bl m k) := fun k hk => by
      have h4 := HHK.out (k + 1) hk
      simp only [halt, Bool.or_eq_false_iff, decide_eq_false_iff_not] at h4
      have := HSD.out k hk
      omega
    have HC : Hid (∀ W' i, i < bl.length → Calls Tryz.prog 14 #[.agg #[.string (bAt bl i).s, .int .i64 (bAt bl i).r, .int .i64 (bAt bl i).l, .int .i64 (bAt bl i).c], .int .i64 m] W' fun e w' => e = .returned (.tuple #[.int .i64 (spdI bl m i), .int .i64 0]) ∧ Below W'.heap.size W' w') := fun W' i hi => by
      have h4 := specSpeedIn_any (bAt bl i).s (bAt bl i).r (bAt bl i).l (bAt bl i).c m (HN.out.2.1 i hi) W'
      have h5 : bendB (bAt bl i).s (bAt bl i).r (bAt bl i).l (bAt bl i).c = true := listB_at h1 i hi
      rw [h5, h2] at h4
      have h6 : spdI bl m i = spdT (bAt bl i).r (bAt bl i).c m - 1 := by unfold spdI; rfl
      rw [h6]
      exact h4
    have HT : Hid (∀ W' i, Below w.heap.size w W' → i < bl.length → Calls Tryz.prog 16 #[.agg #[.string (bAt bl i).s, .int .i64 (bAt bl i).r, .int .i64 (bAt bl i).l, .int .i64 (bAt bl i).c]] W' fun e w' => e = .returned (.string (bendP (bAt bl i).s (bAt bl i).r (bAt bl i).l (bAt bl i).c)) ∧ Below W'.heap.size W' w') := fun W' i hW hi => implBendText_any _ _ _ _ (HN.out.2.1 i hi) W' (HEN.out.tab.below hW)
    have HRB : Hid (∀ W' i, Below w.heap.size w W' → i < bl.length → Calls Tryz.prog 15 #[.string (bendP (bAt bl i).s (bAt bl i).r (bAt bl i).l (bAt bl i).c)] W' fun e w' => e = .returned (.tuple #[.agg #[.string (bAt bl i).s, .int .i64 (bAt bl i).r, .int .i64 (bAt bl i).l, .int .i64 (bAt bl i).c], .bool true]) ∧ Below W'.heap.size W' w') := fun W' i hW hi => by
      have h5 : bendB (bAt bl i).s (bAt bl i).r (bAt bl i).l (bAt bl i).c = true := listB_at h1 i hi
      obtain ⟨r0, r1, r2, r3, r4⟩ := bend_back h5
      have h4 := implReadBend_any _ (bendP_size h5) W' (HSH.out.below hW) (HEN.out.below hW)
      unfold RB at h4
      rw [r0, r1, r2, r3, r4] at h4
      exact h4
    have HSS : Hid (∀ k, secTo bl m (k + 1) = secTo bl m k + ((bAt bl k).l + spdI bl m k - 1) / spdI bl m k) := fun k => rfl
    obtain ⟨SUM, hSUM⟩ : ∃ SUM, SUM = secTo bl m bl.length := ⟨_, rfl⟩
    rw [← hSUM] at HI
    have hSB := HST.out bl.length (Nat.le_refl _)
    rw [← hSUM] at hSB
    have HSM := Lib.hid hSUM
    have HZ0 : Hid (SUM = SUM - secTo bl m 0) := by show _ = _; simp [secTo]
    clear z1 z2 h1 h2 h3 hok hm0 hSUM
    have hSB2 : 0 ≤ SUM ∧ SUM ≤ 20000000 := by omega
    clear hSB
    go_wp2_with fail
    refine HI.out.mono ?_
    rintro e W2 ⟨rfl, hb2⟩
    have HB2 := Lib.hid (HB1.out.trans (hb2.mono HB1.out.size))
    have HW2 := Lib.hid hb2
    clear hb2
    go_wp2_with fail
    go_loopw [29, 31] (fun s i wr => ∃ (k : Nat) (z : Int), k ≤ bl.length ∧ i = .int .i64 k ∧ s = .int .i64 z ∧ Hid (z = SUM - secTo bl m k) ∧ Hid (Below W1.heap.size W1 wr) ∧ Hid (Below w.heap.size w wr)) (fun _ i _ => bl.length - (intOf i).toNat)
    case atStart => exact ⟨0, SUM, Nat.zero_le _, rfl, rfl, HZ0, HW2, HB2⟩
    case round =>
      obtain ⟨k, z, hk, rfl, rfl, HZ, HW, HBr⟩ := hrel
      have hSk := HST.out k hk
      have hz := HZ.out
      have hzb : -40000000 ≤ z ∧ z ≤ 40000000 := by omega
      by_cases hlt : k < bl.length
      · obtain ⟨-, -, hcell⟩ := HN.out.below HW.out HW.out.size
        obtain ⟨g, off, rfl, hg, hc⟩ := hcell (by omega)
        have HC4 := Lib.hid (hc k hlt)
        obtain ⟨q0, q1, q2, q3⟩ := hc k hlt
        have HCk := Lib.hid (HC.out wr k hlt)
        have HTk := Lib.hid (fun W' hW => HT.out W' k hW hlt)
        have HRk := Lib.hid (fun W' hW => HRB.out W' k hW hlt)
        have hv1 := HS1.out k hlt
        have hv2 := (HSD.out k hlt).2
        have hl1 := (HBD.out k hlt).2.1
        have HNX : Hid (SUM - secTo bl m (k + 1) = z - ((bAt bl k).l + spdI bl m k - 1) / spdI bl m k) := by
          show _ = _
          rw [HSS.out k]
          omega
        have HCC : Hid (∀ W', Below wr.heap.size wr W' → W'.cell? ⟨g, off + k * 4, none⟩ = some (.string (bAt bl k).s) ∧ W'.cell? ⟨g, off + k * 4 + 1, none⟩ = some (.int .i64 (bAt bl k).r) ∧ W'.cell? ⟨g, off + k * 4 + 2, none⟩ = some (.int .i64 (bAt bl k).l) ∧ W'.cell? ⟨g, off + k * 4 + 3, none⟩ = some (.int .i64 (bAt bl k).c)) := fun W' hW =>
          ⟨(hW.cell (p := ⟨g, off + k * 4, none⟩) hg).trans q0, (hW.cell (p := ⟨g, off + k * 4 + 1, none⟩) hg).trans q1, (hW.cell (p := ⟨g, off + k * 4 + 2, none⟩) hg).trans q2, (hW.cell (p := ⟨g, off + k * 4 + 3, none⟩) hg).trans q3⟩
        clear hc hcell HC4 hz hSk HC HT HRB HSS HST HSD HBD HS1
        generalize spdI bl m k = V at *
        generalize (bAt bl k).s = xs at *
        generalize (bAt bl k).r = xr at *
        generalize (bAt bl k).l = xl at *
        generalize (bAt bl k).c = xc at *
        generalize bendP xs xr xl xc = T at *
        obtain ⟨f1, f2⟩ := ediv_bounds (x := xl + V - 1) (y := V) (by omega) (by omega)
        have hv3 : ¬ V < 1 := by omega
        have hv4 : decide (V < 1) = false := decide_eq_false hv3
        have hv5 : (V == 0) = false := by rw [beq_eq_false_iff_ne]; omega
        go_wp2_with fail
        refine HCk.out.mono ?_
        rintro e W3 ⟨rfl, hb3⟩
        have HX3 := Lib.hid hb3
        have HB3 := Lib.hid (HBr.out.trans (hb3.mono HBr.out.size))
        clear hb3 q0 q1 q2 q3
        obtain ⟨q0, q1, q2, q3⟩ := HCC.out W3 HX3.out
        go_wp2_with fail
        refine (HTk.out _ HB3.out).mono ?_
        rintro e W4 ⟨rfl, hb4⟩
        have HX4 := Lib.hid (HX3.out.trans (hb4.mono HX3.out.size))
        have HB4 := Lib.hid (HB3.out.trans (hb4.mono HB3.out.size))
        clear hb4 q0 q1 q2 q3
        go_wp2_with fail
        refine (HRk.out _ HB4.out).mono ?_
        rintro e W5 ⟨rfl, hb5⟩
        have HX5 := Lib.hid (HX4.out.trans (hb5.mono HX4.out.size))
        have HB5 := Lib.hid (HB4.out.trans (hb5.mono HB4.out.size))
        obtain ⟨r0, r1, r2, r3, r4, r5⟩ := boxed4 W5 25 (.string xs) (.int .i64 xr) (.int .i64 xl) (.int .i64 xc)
        have HX6 := Lib.hid (HX5.out.trans (r4.mono HX5.out.size))
        have HB6 := Lib.hid (HB5.out.trans (r4.mono HB5.out.size))
        have HW6 := Lib.hid (HW.out.trans (HX6.out.mono HW.out.size))
        clear hb5 r4 r5
        obtain ⟨q0, q1, q2, q3⟩ := HCC.out _ HX6.out
        go_wp2_with fail
        generalize W5.alloc (.cells #[.string xs, .int .i64 xr, .int .i64 xl, .int .i64 xc] 25) = W6 at *
        go_quiet (fail)
        go_wp2_with fail
        go_roundw
        case rel => exact ⟨k + 1, _, by omega, by go_num, rfl, HNX.out.symm, HW6.out.trans ⟨rfl, rfl, rfl, Nat.le_refl _, fun _ _ => rfl⟩, HB6.out.trans ⟨rfl, rfl, rfl, Nat.le_refl _, fun _ _ => rfl⟩⟩
        case measure => simp [intOf]; omega
      · have e : k = bl.length := by omega
        subst e
        have hz0 : z = 0 := by rw [hz, HSM.out]; omega
        subst hz0
        go_wp2_with fail
        go_ret
        exact ⟨rfl, HBr.out⟩
  · have hz : lastA bl m = 0 := by
      unfold lastC at hok
      cases h1 : listB bl
      · exact (last_bad h1).1
      · cases h2 : inB m 0 5000
        · exact (last_out h1 h2).1
        · cases h3 : halt bl m bl.length
          · exact absurd (last_ok h1 h2 h3).2 (by unfold lastC; exact hok)
          · exact (last_halt h1 h2 h3).1
    have hne : (lastC bl m == 0) = false := by rw [beq_eq_false_iff_ne]; exact hok
    rw [hz] at HI
    clear hz hok
    generalize lastC bl m = C at *
    go_wp2_with fail
    refine HI.out.mono ?_
    rintro e W2 ⟨rfl, hb2⟩
    have HB2 := Lib.hid (HB1.out.trans (hb2.mono HB1.out.size))
    clear hb2
    go_wp2_with fail
    go_ret
    exact ⟨rfl, HB2.out⟩
end Go.Proofs.YtlknncmnphbpkaaGreatDoor.GrdS
