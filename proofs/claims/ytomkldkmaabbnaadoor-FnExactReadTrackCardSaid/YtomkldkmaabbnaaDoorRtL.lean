/- The walk of the law on ReadTrack. -/
import Derived.Test.YtomkldkmaabbnaaDoorRtB
import Derived.Test.YtomkldkmaabbnaaDoorTLawR
namespace Go.Proofs.YtomkldkmaabbnaaDoor.RtL
set_option maxRecDepth 100000
open Go.RowKit Go.Proofs.YtomkldkmaabbnaaDoor.Plain Go.Proofs.YtomkldkmaabbnaaDoor.TrkP Go.Proofs.YtomkldkmaabbnaaDoor.WalkA Go.Proofs.YtomkldkmaabbnaaDoor.TrkA Go.Proofs.YtomkldkmaabbnaaDoor.TrkB Go.Proofs.YtomkldkmaabbnaaDoor.TrkC Go.Proofs.YtomkldkmaabbnaaDoor.TrkD Go.Proofs.YtomkldkmaabbnaaDoor.TrkE Go.Proofs.YtomkldkmaabbnaaDoor.TrkR Go.Proofs.YtomkldkmaabbnaaDoor.TrkS Go.Proofs.YtomkldkmaabbnaaDoor.TrkT Go.Proofs.YtomkldkmaabbnaaDoor.TLaw Go.Proofs.YtomkldkmaabbnaaDoor.TLawR Go.Proofs.YtomkldkmaabbnaaDoor.RtA
open Go.Proofs.YtomkldkmaabbnaaDoor.TxtT (Shp Shp.below)
open Go.Proofs.YtomkldkmaabbnaaDoor.TxtP (Env Env.below)
open Go.Proofs.YtomkldkmaabbnaaDoor.TxtK (rtB rtL rtF rtU)

theorem len_rt (s : ByteArray) : (rtRL s).length ≤ 1048576 := by
  unfold rtRL
  by_cases hv : rtB s = true
  · rw [if_pos hv]
    unfold rtB at hv
    rw [Bool.and_eq_true, Bool.and_eq_true] at hv
    have a := (trackB_iff.1 hv.2.1).good.1
    omega
  · rw [if_neg hv]; simp
set_option maxHeartbeats 4000000 in
theorem readTrack_law (s : ByteArray) (_ : s.size ≤ maxLen) (w : World) (hsh : Shp w) (hE : Env w) :
    Calls Tryd.prog 3 #[.string s] w fun e w' => e = .returned (.bool true) ∧ Below w.heap.size w w' := by
  by_cases h : (s.size : Int) ≤ 1048576
  · have hs : s.size ≤ 1048576 := by omega
    have HR := Lib.hid (fun W => RtB.specReadTrack_any s hs W)
    have HI := Lib.hid (fun W (hb : Below w.heap.size w W) => implReadTrack_any s hs W (hsh.below hb) (hE.below hb))
    have HLR := Lib.hid (len_rt s)
    unfold RT at HR HI
    clear hs hsh hE
    generalize rtRL s = l' at *
    generalize vI (rtB s) (rtF s) = lf' at *
    generalize vI (rtB s) (rtU s) = lu' at *
    generalize rtB s = cd at *
    cases cd
    all_goals
      have HB := Lib.hid (Below.refl w.heap.size w)
      go_enter Tryd.func3, Tryd.ntmps3
      go_wp2_with fail
      refine (HR.out _).mono ?_
      rintro e w3 ⟨A0, c0, rfl, ho, hb⟩
      have O0 := Lib.hid ho
      clear ho
      have HB_ := Lib.hid (HB.out.trans (hb.mono HB.out.size))
      clear HB
      have HB := HB_
      clear HB_
      clear hb
      have hba := (Below.refl w3.heap.size w3).alloc (Nat.le_refl _) (.cells #[.slice A0 l'.length c0, .int .i64 lf', .int .i64 lu'] 24)
      have R4 := Lib.hid (RowAt.new w3 24 #[.slice A0 l'.length c0, .int .i64 lf', .int .i64 lu'])
      have O0_ := Lib.hid (OwnT.below O0.out hba)
      have HB_ := Lib.hid (HB.out.trans (hba.mono HB.out.size))
      clear O0
      have O0 := O0_
      clear O0_
      clear HB
      have HB := HB_
      clear HB_
      clear hba
      go_wp2_with fail
      generalize w3.alloc (.cells #[.slice A0 l'.length c0, .int .i64 lf', .int .i64 lu'] 24) = W3 at *
      have HMG := Lib.hid (Nat.le_refl W3.heap.size)
      have U0 := Lib.hid (OwnT.up O0.out)
      have HBG := Lib.hid HB.out.size
      refine (HI.out _ HB.out).mono ?_
      rintro e w5 ⟨AG, cG, rfl, ho, hb⟩
      have G0 := Lib.hid ho
      have hBG := hb.size
      clear ho
      have R4_ := Lib.hid (R4.out.below hb R4.out.lt)
      have O0_ := Lib.hid (OwnT.below O0.out hb)
      have HB_ := Lib.hid (HB.out.trans (hb.mono HB.out.size))
      clear R4
      have R4 := R4_
      clear R4_
      clear O0
      have O0 := O0_
      clear O0_
      clear HB
      have HB := HB_
      clear HB_
      clear hb
      have hba := (Below.refl w5.heap.size w5).alloc (Nat.le_refl _) (.cells #[.slice AG l'.length cG, .int .i64 lf', .int .i64 lu'] 24)
      have R7 := Lib.hid (RowAt.new w5 24 #[.slice AG l'.length cG, .int .i64 lf', .int .i64 lu'])
      have R4_ := Lib.hid (R4.out.below hba R4.out.lt)
      have O0_ := Lib.hid (OwnT.below O0.out hba)
      have G0_ := Lib.hid (OwnT.below G0.out hba)
      have HB_ := Lib.hid (HB.out.trans (hba.mono HB.out.size))
      clear R4
      have R4 := R4_
      clear R4_
      clear O0
      have O0 := O0_
      clear O0_
      clear G0
      have G0 := G0_
      clear G0_
      clear HB
      have HB := HB_
      clear HB_
      clear hba
      obtain ⟨r70, r71, r72, r73, r74, r75⟩ := R7.out.three
      obtain ⟨r40, r41, r42, r43, r44, r45⟩ := R4.out.three
      go_wp2_with fail
      generalize w5.alloc (.cells #[.slice AG l'.length cG, .int .i64 lf', .int .i64 lu'] 24) = W5 at *
      refine (eqTrack_any _ _ _ _ _ _ _ l' _ G0.out.secs O0.out.secs (Nat.le_trans HLR.out (show 1048576 ≤ 9223372036854775807 by decide))).mono ?_
      rintro e w6 ⟨rfl, hb⟩
      clear r70 r71 r72 r73 r74 r75 r40 r41 r42 r43 r44 r45
      have R4_ := Lib.hid (R4.out.below hb R4.out.lt)
      have R7_ := Lib.hid (R7.out.below hb R7.out.lt)
      have O0_ := Lib.hid (OwnT.below O0.out hb)
      have G0_ := Lib.hid (OwnT.below G0.out hb)
      have HB_ := Lib.hid (HB.out.trans (hb.mono HB.out.size))
      clear R4
      have R4 := R4_
      clear R4_
      clear R7
      have R7 := R7_
      clear R7_
      clear O0
      have O0 := O0_
      clear O0_
      clear G0
      have G0 := G0_
      clear G0_
      clear HB
      have HB := HB_
      clear HB_
      clear hb
      obtain ⟨r70, r71, r72, r73, r74, r75⟩ := R7.out.three
      go_wp2_with fail
      refine (markT_any _ _ _ _ _ _ _ _ G0.out HLR.out).mono ?_
      rintro e w11 ⟨rfl, hm, hg⟩
      clear r70 r71 r72 r73 r74 r75
      have R4_ := Lib.hid (row_past R4.out (by decide) G0.out hg)
      have R7_ := Lib.hid (row_past R7.out (by decide) G0.out hg)
      have O0_ := Lib.hid (OwnT.past O0.out U0.out G0.out HMG.out hg)
      have MG_ := Lib.hid hm
      have HB_ := Lib.hid (mark_below HB.out G0.out HBG.out hg)
      clear R4
      have R4 := R4_
      clear R4_
      clear R7
      have R7 := R7_
      clear R7_
      clear O0
      have O0 := O0_
      clear O0_
      clear HB
      have HB := HB_
      clear HB_
      clear hm G0 hg
      have MG := MG_
      clear MG_
      obtain ⟨r70, r71, r72, r73, r74, r75⟩ := R7.out.three
      go_wp2_with fail
      refine (heldT_any _ _ _ _ _ _ MG.out HLR.out).mono ?_
      rintro e w12 ⟨rfl, hb⟩
      clear r70 r71 r72 r73 r74 r75
      have R4_ := Lib.hid (R4.out.below hb R4.out.lt)
      have R7_ := Lib.hid (R7.out.below hb R7.out.lt)
      have O0_ := Lib.hid (OwnT.below O0.out hb)
      have HB_ := Lib.hid (HB.out.trans (hb.mono HB.out.size))
      have MG_ := Lib.hid (MG.out.below hb)
      clear R4
      have R4 := R4_
      clear R4_
      clear R7
      have R7 := R7_
      clear R7_
      clear O0
      have O0 := O0_
      clear O0_
      clear HB
      have HB := HB_
      clear HB_
      clear MG
      have MG := MG_
      clear MG_
      clear hb
      go_wp2_with fail
      refine (HI.out _ HB.out).mono ?_
      rintro e w14 ⟨AH, cH, rfl, ho, hb⟩
      have H0 := Lib.hid ho
      clear ho
      have R4_ := Lib.hid (R4.out.below hb R4.out.lt)
      have R7_ := Lib.hid (R7.out.below hb R7.out.lt)
      have O0_ := Lib.hid (OwnT.below O0.out hb)
      have HB_ := Lib.hid (HB.out.trans (hb.mono HB.out.size))
      have MG_ := Lib.hid (MG.out.below hb)
      clear R4
      have R4 := R4_
      clear R4_
      clear R7
      have R7 := R7_
      clear R7_
      clear O0
      have O0 := O0_
      clear O0_
      clear HB
      have HB := HB_
      clear HB_
      clear MG
      have MG := MG_
      clear MG_
      clear hb
      have hba := (Below.refl w14.heap.size w14).alloc (Nat.le_refl _) (.cells #[.slice AH l'.length cH, .int .i64 lf', .int .i64 lu'] 24)
      have R12 := Lib.hid (RowAt.new w14 24 #[.slice AH l'.length cH, .int .i64 lf', .int .i64 lu'])
      have R4_ := Lib.hid (R4.out.below hba R4.out.lt)
      have R7_ := Lib.hid (R7.out.below hba R7.out.lt)
      have O0_ := Lib.hid (OwnT.below O0.out hba)
      have H0_ := Lib.hid (OwnT.below H0.out hba)
      have HB_ := Lib.hid (HB.out.trans (hba.mono HB.out.size))
      have MG_ := Lib.hid (MG.out.below hba)
      clear R4
      have R4 := R4_
      clear R4_
      clear R7
      have R7 := R7_
      clear R7_
      clear O0
      have O0 := O0_
      clear O0_
      clear H0
      have H0 := H0_
      clear H0_
      clear HB
      have HB := HB_
      clear HB_
      clear MG
      have MG := MG_
      clear MG_
      clear hba
      obtain ⟨r120, r121, r122, r123, r124, r125⟩ := R12.out.three
      obtain ⟨r40, r41, r42, r43, r44, r45⟩ := R4.out.three
      go_wp2_with fail
      generalize w14.alloc (.cells #[.slice AH l'.length cH, .int .i64 lf', .int .i64 lu'] 24) = W14 at *
      refine (eqTrack_any _ _ _ _ _ _ _ l' _ H0.out.secs O0.out.secs (Nat.le_trans HLR.out (show 1048576 ≤ 9223372036854775807 by decide))).mono ?_
      rintro e w15 ⟨rfl, hb⟩
      clear r120 r121 r122 r123 r124 r125 r40 r41 r42 r43 r44 r45
      have R4_ := Lib.hid (R4.out.below hb R4.out.lt)
      have R7_ := Lib.hid (R7.out.below hb R7.out.lt)
      have R12_ := Lib.hid (R12.out.below hb R12.out.lt)
      have O0_ := Lib.hid (OwnT.below O0.out hb)
      have H0_ := Lib.hid (OwnT.below H0.out hb)
      have HB_ := Lib.hid (HB.out.trans (hb.mono HB.out.size))
      have MG_ := Lib.hid (MG.out.below hb)
      clear R4
      have R4 := R4_
      clear R4_
      clear R7
      have R7 := R7_
      clear R7_
      clear R12
      have R12 := R12_
      clear R12_
      clear O0
      have O0 := O0_
      clear O0_
      clear H0
      have H0 := H0_
      clear H0_
      clear HB
      have HB := HB_
      clear HB_
      clear MG
      have MG := MG_
      clear MG_
      clear hb
      obtain ⟨r70, r71, r72, r73, r74, r75⟩ := R7.out.three
      go_wp2_with fail
      refine (heldT_any _ _ _ _ _ _ MG.out HLR.out).mono ?_
      rintro e w16 ⟨rfl, hb⟩
      clear r70 r71 r72 r73 r74 r75
      have R4_ := Lib.hid (R4.out.below hb R4.out.lt)
      have R7_ := Lib.hid (R7.out.below hb R7.out.lt)
      have R12_ := Lib.hid (R12.out.below hb R12.out.lt)
      have O0_ := Lib.hid (OwnT.below O0.out hb)
      have H0_ := Lib.hid (OwnT.below H0.out hb)
      have HB_ := Lib.hid (HB.out.trans (hb.mono HB.out.size))
      have MG_ := Lib.hid (MG.out.below hb)
      clear R4
      have R4 := R4_
      clear R4_
      clear R7
      have R7 := R7_
      clear R7_
      clear R12
      have R12 := R12_
      clear R12_
      clear O0
      have O0 := O0_
      clear O0_
      clear H0
      have H0 := H0_
      clear H0_
      clear HB
      have HB := HB_
      clear HB_
      clear MG
      have MG := MG_
      clear MG_
      clear hb
      go_wp2
      go_ret
      exact ⟨rfl, HB.out⟩
  · clear hsh hE
    have b : Below w.heap.size w w := Below.refl _ _
    go_enter Tryd.func3, Tryd.ntmps3
    go_wp2_with fail
    go_ret
    exact ⟨rfl, b⟩
end Go.Proofs.YtomkldkmaabbnaaDoor.RtL
