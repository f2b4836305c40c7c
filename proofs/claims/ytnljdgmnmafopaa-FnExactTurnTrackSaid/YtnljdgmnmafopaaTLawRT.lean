/- The walk of the law on TurnTrack. -/
import Derived.Test.YtnljdgmnmafopaaTLawR
import Derived.Test.YtnljdgmnmafopaaTrkY
import Derived.Test.YtnljdgmnmafopaaTrkZ
namespace Go.Proofs.Ytnljdgmnmafopaa.TLawRT
open Go.RowKit Go.Proofs.Ytnljdgmnmafopaa.Plain Go.Proofs.Ytnljdgmnmafopaa.TrkP Go.Proofs.Ytnljdgmnmafopaa.WalkA Go.Proofs.Ytnljdgmnmafopaa.TrkA Go.Proofs.Ytnljdgmnmafopaa.TrkB Go.Proofs.Ytnljdgmnmafopaa.TrkC Go.Proofs.Ytnljdgmnmafopaa.TrkD Go.Proofs.Ytnljdgmnmafopaa.TrkE Go.Proofs.Ytnljdgmnmafopaa.TrkR Go.Proofs.Ytnljdgmnmafopaa.TrkS Go.Proofs.Ytnljdgmnmafopaa.TrkT Go.Proofs.Ytnljdgmnmafopaa.TLaw Go.Proofs.Ytnljdgmnmafopaa.TLawR Go.Proofs.Ytnljdgmnmafopaa.TrkX Go.Proofs.Ytnljdgmnmafopaa.TrkY0 Go.Proofs.Ytnljdgmnmafopaa.TrkY Go.Proofs.Ytnljdgmnmafopaa.TrkZ

theorem len_turn (l : List (Int × Int)) (lf lu : Int) : (turnL l lf lu).length ≤ 1048576 := by
  unfold turnL
  by_cases hv : trackB l lf lu = true
  · rw [if_pos hv, List.length_reverse]; have a := (trackB_iff.1 hv).good.1; omega
  · rw [if_neg hv]; simp
set_option maxHeartbeats 4000000 in
theorem turnTrack (A : Option Addr) (n c : Nat) (lf lu : Int) (l : List (Int × Int)) (w : World) (hs : Secs w w.heap.size A n l) (hn : n ≤ 9223372036854775807) :
    Calls Try.prog 9 #[.agg #[.slice A n c, .int .i64 lf, .int .i64 lu]] w fun e w' => e = .returned (.bool true) ∧ Below w.heap.size w w' := by
  have HLN := Lib.hid hs.1
  have HZ := Lib.hid (fun W => szTrack_any A n c lf lu hn W)
  have HSS := Lib.hid (fun (W : World) (hW : Below w.heap.size w W) => hs.below hW hW.size)
  have HR := Lib.hid (fun A' c' (W : World) (h : Secs W W.heap.size A' l.length l) (hn : l.length ≤ 1048576) => specTurn_any A' l.length c' lf lu l W h hn)
  have HI := Lib.hid (fun A' c' (W : World) (h : Secs W W.heap.size A' l.length l) (hn : l.length ≤ 1048576) => implTurn_any A' l.length c' lf lu l W h hn)
  have HLR : Hid ((turnL l lf lu).length ≤ 1048576) := by exact len_turn l lf lu
  clear hs
  by_cases hsz : (n : Int) ≤ 1048576
  · rw [szI_in hsz] at HZ
    have hle : n ≤ 1048576 := by omega
    have HLE : Hid (l.length ≤ 1048576) := by show l.length ≤ 1048576; rw [HLN.out]; exact hle
    have HT := Lib.hid (fun (W : World) (hW : Below w.heap.size w W) => toTrack_any A n c lf lu l W (HSS.out W hW) hle)
    have HTR := Lib.hid (fun (W : World) (hW : Below w.heap.size w W) => (toTrackR_any A n c lf lu l W (HSS.out W hW) hle).mono fun _ _ h => NewTrackR.own h)
    generalize turnL l lf lu = l' at *
    generalize turnF l lf lu = lf' at *
    generalize turnU l lf lu = lu' at *
    generalize cI (trackB l lf lu) = cd at *
    have HB := Lib.hid (Below.refl w.heap.size w)
    go_enter Try.func9, Try.ntmps9
    have hba := (Below.refl w.heap.size w).alloc (Nat.le_refl _) (.cells #[.slice A n c, .int .i64 lf, .int .i64 lu] 24)
    have R1 := Lib.hid (RowAt.new w 24 #[.slice A n c, .int .i64 lf, .int .i64 lu])
    have HB_ := Lib.hid (HB.out.trans (hba.mono HB.out.size))
    clear HB
    have HB := HB_
    clear HB_
    clear hba
    obtain ⟨r10, r11, r12, r13, r14, r15⟩ := R1.out.three
    go_wp2_with fail
    generalize w.alloc (.cells #[.slice A n c, .int .i64 lf, .int .i64 lu] 24) = W0 at *
    refine (HZ.out _).mono ?_
    rintro e w1 ⟨rfl, hb⟩
    clear r10 r11 r12 r13 r14 r15
    have R1_ := Lib.hid (R1.out.below hb R1.out.lt)
    have HB_ := Lib.hid (HB.out.trans (hb.mono HB.out.size))
    clear R1
    have R1 := R1_
    clear R1_
    clear HB
    have HB := HB_
    clear HB_
    clear hb
    obtain ⟨r10, r11, r12, r13, r14, r15⟩ := R1.out.three
    go_wp2_with fail
    refine (HT.out _ HB.out).mono ?_
    rintro e w2 ⟨g2, c2, rfl, _, _, hs2, hb⟩
    have S2 := Lib.hid hs2
    clear hs2
    clear r10 r11 r12 r13 r14 r15
    have R1_ := Lib.hid (R1.out.below hb R1.out.lt)
    have HB_ := Lib.hid (HB.out.trans (hb.mono HB.out.size))
    clear R1
    have R1 := R1_
    clear R1_
    clear HB
    have HB := HB_
    clear HB_
    clear hb
    go_wp2_with fail
    refine (HR.out _ _ _ S2.out HLE.out).mono ?_
    rintro e w3 ⟨A0, c0, rfl, ho, hb⟩
    have O0 := Lib.hid ho
    clear ho S2
    have R1_ := Lib.hid (R1.out.below hb R1.out.lt)
    have HB_ := Lib.hid (HB.out.trans (hb.mono HB.out.size))
    clear R1
    have R1 := R1_
    clear R1_
    clear HB
    have HB := HB_
    clear HB_
    clear hb
    have hba := (Below.refl w3.heap.size w3).alloc (Nat.le_refl _) (.cells #[.slice A0 l'.length c0, .int .i64 lf', .int .i64 lu'] 30)
    have R4 := Lib.hid (RowAt.new w3 30 #[.slice A0 l'.length c0, .int .i64 lf', .int .i64 lu'])
    have R1_ := Lib.hid (R1.out.below hba R1.out.lt)
    have O0_ := Lib.hid (OwnT.below O0.out hba)
    have HB_ := Lib.hid (HB.out.trans (hba.mono HB.out.size))
    clear R1
    have R1 := R1_
    clear R1_
    clear O0
    have O0 := O0_
    clear O0_
    clear HB
    have HB := HB_
    clear HB_
    clear hba
    obtain ⟨r10, r11, r12, r13, r14, r15⟩ := R1.out.three
    go_wp2_with fail
    generalize w3.alloc (.cells #[.slice A0 l'.length c0, .int .i64 lf', .int .i64 lu'] 30) = W3 at *
    have HBX := Lib.hid HB.out.size
    refine (HTR.out _ HB.out).mono ?_
    rintro e w4 ⟨AX, cX, rfl, ho, hb⟩
    have X0 := Lib.hid ho
    have U0 := Lib.hid (OwnT.up O0.out)
    have hBX := hb.size
    clear ho
    clear r10 r11 r12 r13 r14 r15
    have R1_ := Lib.hid (R1.out.below hb R1.out.lt)
    have R4_ := Lib.hid (R4.out.below hb R4.out.lt)
    have O0_ := Lib.hid (OwnT.below O0.out hb)
    have HB_ := Lib.hid (HB.out.trans (hb.mono HB.out.size))
    clear R1
    have R1 := R1_
    clear R1_
    clear R4
    have R4 := R4_
    clear R4_
    clear O0
    have O0 := O0_
    clear O0_
    clear HB
    have HB := HB_
    clear HB_
    clear hb
    have hba := (Below.refl w4.heap.size w4).alloc (Nat.le_refl _) (.cells #[.slice AX l.length cX, .int .i64 lf, .int .i64 lu] 30)
    have R6 := Lib.hid (RowAt.new w4 30 #[.slice AX l.length cX, .int .i64 lf, .int .i64 lu])
    have R1_ := Lib.hid (R1.out.below hba R1.out.lt)
    have R4_ := Lib.hid (R4.out.below hba R4.out.lt)
    have O0_ := Lib.hid (OwnT.below O0.out hba)
    have X0_ := Lib.hid (OwnT.below X0.out hba)
    have HB_ := Lib.hid (HB.out.trans (hba.mono HB.out.size))
    clear R1
    have R1 := R1_
    clear R1_
    clear R4
    have R4 := R4_
    clear R4_
    clear O0
    have O0 := O0_
    clear O0_
    clear X0
    have X0 := X0_
    clear X0_
    clear HB
    have HB := HB_
    clear HB_
    clear hba
    obtain ⟨r60, r61, r62, r63, r64, r65⟩ := R6.out.three
    have S6 := Lib.hid X0.out.secs
    have hB4 : W3.heap.size ≤ (w4.alloc (.cells #[.slice AX l.length cX, .int .i64 lf, .int .i64 lu] 30)).heap.size := by have := World.size_alloc w4 (.cells #[.slice AX l.length cX, .int .i64 lf, .int .i64 lu] 30); omega
    go_wp2_with fail
    generalize w4.alloc (.cells #[.slice AX l.length cX, .int .i64 lf, .int .i64 lu] 30) = W4 at *
    have HMG := Lib.hid hB4
    have HBG := Lib.hid HB.out.size
    clear hB4
    refine (HI.out _ _ _ S6.out HLE.out).mono ?_
    rintro e w5 ⟨AG, cG, rfl, ho, hb⟩
    have G0 := Lib.hid ho
    have UX := Lib.hid (OwnT.up X0.out)
    have hBG := hb.size
    clear ho S6
    clear r60 r61 r62 r63 r64 r65
    have R1_ := Lib.hid (R1.out.below hb R1.out.lt)
    have R4_ := Lib.hid (R4.out.below hb R4.out.lt)
    have R6_ := Lib.hid (R6.out.below hb R6.out.lt)
    have O0_ := Lib.hid (OwnT.below O0.out hb)
    have X0_ := Lib.hid (OwnT.below X0.out hb)
    have HB_ := Lib.hid (HB.out.trans (hb.mono HB.out.size))
    clear R1
    have R1 := R1_
    clear R1_
    clear R4
    have R4 := R4_
    clear R4_
    clear R6
    have R6 := R6_
    clear R6_
    clear O0
    have O0 := O0_
    clear O0_
    clear X0
    have X0 := X0_
    clear X0_
    clear HB
    have HB := HB_
    clear HB_
    clear hb
    have hba := (Below.refl w5.heap.size w5).alloc (Nat.le_refl _) (.cells #[.slice AG l'.length cG, .int .i64 lf', .int .i64 lu'] 30)
    have R7 := Lib.hid (RowAt.new w5 30 #[.slice AG l'.length cG, .int .i64 lf', .int .i64 lu'])
    have R1_ := Lib.hid (R1.out.below hba R1.out.lt)
    have R4_ := Lib.hid (R4.out.below hba R4.out.lt)
    have R6_ := Lib.hid (R6.out.below hba R6.out.lt)
    have O0_ := Lib.hid (OwnT.below O0.out hba)
    have X0_ := Lib.hid (OwnT.below X0.out hba)
    have G0_ := Lib.hid (OwnT.below G0.out hba)
    have HB_ := Lib.hid (HB.out.trans (hba.mono HB.out.size))
    clear R1
    have R1 := R1_
    clear R1_
    clear R4
    have R4 := R4_
    clear R4_
    clear R6
    have R6 := R6_
    clear R6_
    clear O0
    have O0 := O0_
    clear O0_
    clear X0
    have X0 := X0_
    clear X0_
    clear G0
    have G0 := G0_
    clear G0_
    clear HB
    have HB := HB_
    clear HB_
    clear hba
    obtain ⟨r70, r71, r72, r73, r74, r75⟩ := R7.out.three
    obtain ⟨r40, r41, r42, r43, r44, r45⟩ := R4.out.three
    go_wp2_with fail
    generalize w5.alloc (.cells #[.slice AG l'.length cG, .int .i64 lf', .int .i64 lu'] 30) = W5 at *
    refine (eqTrack_any _ _ _ _ _ _ _ l' _ G0.out.secs O0.out.secs (Nat.le_trans HLR.out (show 1048576 ≤ 9223372036854775807 by decide))).mono ?_
    rintro e w6 ⟨rfl, hb⟩
    clear r70 r71 r72 r73 r74 r75 r40 r41 r42 r43 r44 r45
    have R1_ := Lib.hid (R1.out.below hb R1.out.lt)
    have R4_ := Lib.hid (R4.out.below hb R4.out.lt)
    have R6_ := Lib.hid (R6.out.below hb R6.out.lt)
    have R7_ := Lib.hid (R7.out.below hb R7.out.lt)
    have O0_ := Lib.hid (OwnT.below O0.out hb)
    have X0_ := Lib.hid (OwnT.below X0.out hb)
    have G0_ := Lib.hid (OwnT.below G0.out hb)
    have HB_ := Lib.hid (HB.out.trans (hb.mono HB.out.size))
    clear R1
    have R1 := R1_
    clear R1_
    clear R4
    have R4 := R4_
    clear R4_
    clear R6
    have R6 := R6_
    clear R6_
    clear R7
    have R7 := R7_
    clear R7_
    clear O0
    have O0 := O0_
    clear O0_
    clear X0
    have X0 := X0_
    clear X0_
    clear G0
    have G0 := G0_
    clear G0_
    clear HB
    have HB := HB_
    clear HB_
    clear hb
    obtain ⟨r10, r11, r12, r13, r14, r15⟩ := R1.out.three
    obtain ⟨r60, r61, r62, r63, r64, r65⟩ := R6.out.three
    have HB6 := Lib.hid HB.out
    have HF6 : Hid (∀ W, Below w6.heap.size w6 W → Below w.heap.size w W) := fun W hW => HB6.out.trans (hW.mono HB6.out.size)
    have hp := R1.out.lt
    have hq := R6.out.lt
    have HE6 : Hid (∀ (W : World) (g c' : Nat), Below w6.heap.size w6 W → Secs W W.heap.size (some ⟨g, 0, none⟩) l.length l → Calls Try.prog 17 #[.agg #[.slice AX l.length cX, .int .i64 lf, .int .i64 lu], .agg #[.slice (some ⟨g, 0, none⟩) l.length c', .int .i64 lf, .int .i64 lu]] W fun e w' => e = .returned (.bool true) ∧ Below W.heap.size W w') := fun W g c' hW hg => eqTrack_any _ _ _ _ _ _ _ l W (X0.out.secs.below hW hW.size) hg (Nat.le_trans HLE.out (show 1048576 ≤ 9223372036854775807 by decide))
    go_wp2
    go_region_held3 (fun w' => w'.cell? ⟨w.heap.size, 0, none⟩ = some (.slice A n c) ∧ w'.cell? ⟨w.heap.size, 1, none⟩ = some (.int .i64 lf) ∧ w'.cell? ⟨w.heap.size, 2, none⟩ = some (.int .i64 lu) ∧ w'.cell? ⟨w4.heap.size, 0, none⟩ = some (.slice AX l.length cX) ∧ w'.cell? ⟨w4.heap.size, 1, none⟩ = some (.int .i64 lf) ∧ w'.cell? ⟨w4.heap.size, 2, none⟩ = some (.int .i64 lu) ∧ Below w6.heap.size w6 w')
      (first | exact ⟨r10, r11, r12, r60, r61, r62, (Below.refl _ _).drew⟩ | (go_split_ands; exact keep6 hp hq (by assumption) (by assumption) (by assumption) (by assumption) (by assumption) (by assumption) (by assumption) (by assumption)))
      (first | (go_at_call 15; refine (HT.out _ ?_).mono ?_; (exact HF6.out _ (by go_split_ands; assumption)); rintro e w7 ⟨g7, c7, rfl, g7a, g7b, hs7, hb7⟩) | (go_at_call 17; refine (HE6.out _ _ _ ?_ ?_).mono ?_; (go_split_ands; assumption); (assumption); rintro e w8 ⟨rfl, hb8⟩))
    have hb : Below w6.heap.size w6 w8 := by go_split_ands; assumption
    clear hs7 hb7 hb8 hp hq HE6 HF6 HB6
    clear r10 r11 r12 r13 r14 r15 r60 r61 r62 r63 r64 r65
    have R1_ := Lib.hid (R1.out.below hb R1.out.lt)
    have R4_ := Lib.hid (R4.out.below hb R4.out.lt)
    have R6_ := Lib.hid (R6.out.below hb R6.out.lt)
    have R7_ := Lib.hid (R7.out.below hb R7.out.lt)
    have O0_ := Lib.hid (OwnT.below O0.out hb)
    have X0_ := Lib.hid (OwnT.below X0.out hb)
    have G0_ := Lib.hid (OwnT.below G0.out hb)
    have HB_ := Lib.hid (HB.out.trans (hb.mono HB.out.size))
    clear R1
    have R1 := R1_
    clear R1_
    clear R4
    have R4 := R4_
    clear R4_
    clear R6
    have R6 := R6_
    clear R6_
    clear R7
    have R7 := R7_
    clear R7_
    clear O0
    have O0 := O0_
    clear O0_
    clear X0
    have X0 := X0_
    clear X0_
    clear G0
    have G0 := G0_
    clear G0_
    clear HB
    have HB := HB_
    clear HB_
    clear hb
    obtain ⟨r60, r61, r62, r63, r64, r65⟩ := R6.out.three
    go_wp2_with fail
    refine (markT_any _ _ _ _ _ _ _ _ X0.out HLE.out).mono ?_
    rintro e w9 ⟨rfl, _, hg⟩
    clear r60 r61 r62 r63 r64 r65
    have R1_ := Lib.hid (row_past R1.out (by decide) X0.out hg)
    have R4_ := Lib.hid (row_past R4.out (by decide) X0.out hg)
    have R6_ := Lib.hid (row_past R6.out (by decide) X0.out hg)
    have R7_ := Lib.hid (row_past R7.out (by decide) X0.out hg)
    have O0_ := Lib.hid (OwnT.past O0.out U0.out X0.out (Nat.le_refl _) hg)
    have G0_ := Lib.hid (OwnT.above G0.out UX.out X0.out hg)
    have HB_ := Lib.hid (mark_below HB.out X0.out HBX.out hg)
    clear R1
    have R1 := R1_
    clear R1_
    clear R4
    have R4 := R4_
    clear R4_
    clear R6
    have R6 := R6_
    clear R6_
    clear R7
    have R7 := R7_
    clear R7_
    clear O0
    have O0 := O0_
    clear O0_
    clear G0
    have G0 := G0_
    clear G0_
    clear HB
    have HB := HB_
    clear HB_
    clear X0 hg
    obtain ⟨r70, r71, r72, r73, r74, r75⟩ := R7.out.three
    obtain ⟨r40, r41, r42, r43, r44, r45⟩ := R4.out.three
    go_wp2_with fail
    refine (eqTrack_any _ _ _ _ _ _ _ l' _ G0.out.secs O0.out.secs (Nat.le_trans HLR.out (show 1048576 ≤ 9223372036854775807 by decide))).mono ?_
    rintro e w10 ⟨rfl, hb⟩
    clear r70 r71 r72 r73 r74 r75 r40 r41 r42 r43 r44 r45
    have R1_ := Lib.hid (R1.out.below hb R1.out.lt)
    have R4_ := Lib.hid (R4.out.below hb R4.out.lt)
    have R6_ := Lib.hid (R6.out.below hb R6.out.lt)
    have R7_ := Lib.hid (R7.out.below hb R7.out.lt)
    have O0_ := Lib.hid (OwnT.below O0.out hb)
    have G0_ := Lib.hid (OwnT.below G0.out hb)
    have HB_ := Lib.hid (HB.out.trans (hb.mono HB.out.size))
    clear R1
    have R1 := R1_
    clear R1_
    clear R4
    have R4 := R4_
    clear R4_
    clear R6
    have R6 := R6_
    clear R6_
    clear R7
    have R7 := R7_
    clear R7_
    clear O0
    have O0 := O0_
    clear O0_
    clear G0
    have G0 := G0_
    clear G0_
    clear HB
    have HB := HB_
    clear HB_
    clear hb
    obtain ⟨r70, r71, r72, r73, r74, r75⟩ := R7.out.three
    go_wp2_with fail
    refine (markT_any _ _ _ _ _ _ _ _ G0.out HLR.out).mono ?_
    rintro e w11 ⟨rfl, hm, hg⟩
    clear r70 r71 r72 r73 r74 r75
    have R1_ := Lib.hid (row_past R1.out (by decide) G0.out hg)
    have R4_ := Lib.hid (row_past R4.out (by decide) G0.out hg)
    have R7_ := Lib.hid (row_past R7.out (by decide) G0.out hg)
    have O0_ := Lib.hid (OwnT.past O0.out U0.out G0.out HMG.out hg)
    have MG_ := Lib.hid hm
    have HB_ := Lib.hid (mark_below HB.out G0.out HBG.out hg)
    have MG := hm
    clear MG
    clear R1
    have R1 := R1_
    clear R1_
    clear R4
    have R4 := R4_
    clear R4_
    clear R7
    have R7 := R7_
    clear R7_
    clear O0
    have O0 := O0_
    clear O0_
    clear HB
    have HB := HB_
    clear HB_
    clear hm G0 hg
    have MG := MG_
    clear MG_
    obtain ⟨r70, r71, r72, r73, r74, r75⟩ := R7.out.three
    go_wp2_with fail
    refine (heldT_any _ _ _ _ _ _ MG.out HLR.out).mono ?_
    rintro e w12 ⟨rfl, hb⟩
    clear r70 r71 r72 r73 r74 r75
    have R1_ := Lib.hid (R1.out.below hb R1.out.lt)
    have R4_ := Lib.hid (R4.out.below hb R4.out.lt)
    have R7_ := Lib.hid (R7.out.below hb R7.out.lt)
    have O0_ := Lib.hid (OwnT.below O0.out hb)
    have HB_ := Lib.hid (HB.out.trans (hb.mono HB.out.size))
    have MG_ := Lib.hid (MG.out.below hb)
    clear R1
    have R1 := R1_
    clear R1_
    clear R4
    have R4 := R4_
    clear R4_
    clear R7
    have R7 := R7_
    clear R7_
    clear O0
    have O0 := O0_
    clear O0_
    clear HB
    have HB := HB_
    clear HB_
    clear MG
    have MG := MG_
    clear MG_
    clear hb
    obtain ⟨r10, r11, r12, r13, r14, r15⟩ := R1.out.three
    go_wp2_with fail
    refine (HT.out _ HB.out).mono ?_
    rintro e w13 ⟨g13, c13, rfl, _, _, hs2, hb⟩
    have S13 := Lib.hid hs2
    clear hs2
    clear r10 r11 r12 r13 r14 r15
    have R1_ := Lib.hid (R1.out.below hb R1.out.lt)
    have R4_ := Lib.hid (R4.out.below hb R4.out.lt)
    have R7_ := Lib.hid (R7.out.below hb R7.out.lt)
    have O0_ := Lib.hid (OwnT.below O0.out hb)
    have HB_ := Lib.hid (HB.out.trans (hb.mono HB.out.size))
    have MG_ := Lib.hid (MG.out.below hb)
    clear R1
    have R1 := R1_
    clear R1_
    clear R4
    have R4 := R4_
    clear R4_
    clear R7
    have R7 := R7_
    clear R7_
    clear O0
    have O0 := O0_
    clear O0_
    clear HB
    have HB := HB_
    clear HB_
    clear MG
    have MG := MG_
    clear MG_
    clear hb
    go_wp2_with fail
    refine (HI.out _ _ _ S13.out HLE.out).mono ?_
    rintro e w14 ⟨AH, cH, rfl, ho, hb⟩
    have H0 := Lib.hid ho
    clear ho S13
    have R1_ := Lib.hid (R1.out.below hb R1.out.lt)
    have R4_ := Lib.hid (R4.out.below hb R4.out.lt)
    have R7_ := Lib.hid (R7.out.below hb R7.out.lt)
    have O0_ := Lib.hid (OwnT.below O0.out hb)
    have HB_ := Lib.hid (HB.out.trans (hb.mono HB.out.size))
    have MG_ := Lib.hid (MG.out.below hb)
    clear R1
    have R1 := R1_
    clear R1_
    clear R4
    have R4 := R4_
    clear R4_
    clear R7
    have R7 := R7_
    clear R7_
    clear O0
    have O0 := O0_
    clear O0_
    clear HB
    have HB := HB_
    clear HB_
    clear MG
    have MG := MG_
    clear MG_
    clear hb
    have hba := (Below.refl w14.heap.size w14).alloc (Nat.le_refl _) (.cells #[.slice AH l'.length cH, .int .i64 lf', .int .i64 lu'] 30)
    have R12 := Lib.hid (RowAt.new w14 30 #[.slice AH l'.length cH, .int .i64 lf', .int .i64 lu'])
    have R1_ := Lib.hid (R1.out.below hba R1.out.lt)
    have R4_ := Lib.hid (R4.out.below hba R4.out.lt)
    have R7_ := Lib.hid (R7.out.below hba R7.out.lt)
    have O0_ := Lib.hid (OwnT.below O0.out hba)
    have H0_ := Lib.hid (OwnT.below H0.out hba)
    have HB_ := Lib.hid (HB.out.trans (hba.mono HB.out.size))
    have MG_ := Lib.hid (MG.out.below hba)
    clear R1
    have R1 := R1_
    clear R1_
    clear R4
    have R4 := R4_
    clear R4_
    clear R7
    have R7 := R7_
    clear R7_
    clear O0
    have O0 := O0_
    clear O0_
    clear H0
    have H0 := H0_
    clear H0_
    clear HB
    have HB := HB_
    clear HB_
    clear MG
    have MG := MG_
    clear MG_
    clear hba
    obtain ⟨r120, r121, r122, r123, r124, r125⟩ := R12.out.three
    obtain ⟨r40, r41, r42, r43, r44, r45⟩ := R4.out.three
    go_wp2_with fail
    generalize w14.alloc (.cells #[.slice AH l'.length cH, .int .i64 lf', .int .i64 lu'] 30) = W14 at *
    refine (eqTrack_any _ _ _ _ _ _ _ l' _ H0.out.secs O0.out.secs (Nat.le_trans HLR.out (show 1048576 ≤ 9223372036854775807 by decide))).mono ?_
    rintro e w15 ⟨rfl, hb⟩
    clear r120 r121 r122 r123 r124 r125 r40 r41 r42 r43 r44 r45
    have R1_ := Lib.hid (R1.out.below hb R1.out.lt)
    have R4_ := Lib.hid (R4.out.below hb R4.out.lt)
    have R7_ := Lib.hid (R7.out.below hb R7.out.lt)
    have R12_ := Lib.hid (R12.out.below hb R12.out.lt)
    have O0_ := Lib.hid (OwnT.below O0.out hb)
    have H0_ := Lib.hid (OwnT.below H0.out hb)
    have HB_ := Lib.hid (HB.out.trans (hb.mono HB.out.size))
    have MG_ := Lib.hid (MG.out.below hb)
    clear R1
    have R1 := R1_
    clear R1_
    clear R4
    have R4 := R4_
    clear R4_
    clear R7
    have R7 := R7_
    clear R7_
    clear R12
    have R12 := R12_
    clear R12_
    clear O0
    have O0 := O0_
    clear O0_
    clear H0
    have H0 := H0_
    clear H0_
    clear HB
    have HB := HB_
    clear HB_
    clear MG
    have MG := MG_
    clear MG_
    clear hb
    obtain ⟨r70, r71, r72, r73, r74, r75⟩ := R7.out.three
    go_wp2_with fail
    refine (heldT_any _ _ _ _ _ _ MG.out HLR.out).mono ?_
    rintro e w16 ⟨rfl, hb⟩
    clear r70 r71 r72 r73 r74 r75
    have R1_ := Lib.hid (R1.out.below hb R1.out.lt)
    have R4_ := Lib.hid (R4.out.below hb R4.out.lt)
    have R7_ := Lib.hid (R7.out.below hb R7.out.lt)
    have R12_ := Lib.hid (R12.out.below hb R12.out.lt)
    have O0_ := Lib.hid (OwnT.below O0.out hb)
    have H0_ := Lib.hid (OwnT.below H0.out hb)
    have HB_ := Lib.hid (HB.out.trans (hb.mono HB.out.size))
    have MG_ := Lib.hid (MG.out.below hb)
    clear R1
    have R1 := R1_
    clear R1_
    clear R4
    have R4 := R4_
    clear R4_
    clear R7
    have R7 := R7_
    clear R7_
    clear R12
    have R12 := R12_
    clear R12_
    clear O0
    have O0 := O0_
    clear O0_
    clear H0
    have H0 := H0_
    clear H0_
    clear HB
    have HB := HB_
    clear HB_
    clear MG
    have MG := MG_
    clear MG_
    clear hb
    go_wp2
    go_ret
    exact ⟨rfl, HB.out⟩
  · rw [szI_out hsz] at HZ
    go_enter Try.func9, Try.ntmps9
    have hba := (Below.refl w.heap.size w).alloc (Nat.le_refl _) (.cells #[.slice A n c, .int .i64 lf, .int .i64 lu] 24)
    have HBA := Lib.hid hba
    clear hba
    go_wp2_with (go_at_call 13; refine (HZ.out _).mono ?_; rintro e w1 ⟨rfl, hb1⟩)
    go_ret
    exact ⟨rfl, HBA.out.trans (hb1.mono HBA.out.size)⟩
end Go.Proofs.Ytnljdgmnmafopaa.TLawRT
