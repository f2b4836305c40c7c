/- The walk of the law on cars. -/
import Derived.Test.YtiibpchbjaklcaaCarN
import Derived.Test.YtiibpchbjaklcaaSrcT
import Derived.Test.YtiibpchbjaklcaaTrkN
import Derived.Test.YtiibpchbjaklcaaTrkH
import Derived.Test.YtiibpchbjaklcaaTrkM
import Derived.Deep.DeepCutAuto
namespace Go.Proofs.Ytiibpchbjaklcaa.CarL
set_option maxRecDepth 100000
open Go.RowKit Go.Proofs.Ytiibpchbjaklcaa.Plain Go.Proofs.Ytiibpchbjaklcaa.TrkP Go.Proofs.Ytiibpchbjaklcaa.WalkA Go.Proofs.Ytiibpchbjaklcaa.TrkA Go.Proofs.Ytiibpchbjaklcaa.TrkC Go.Proofs.Ytiibpchbjaklcaa.TrkD Go.Proofs.Ytiibpchbjaklcaa.TrkE Go.Proofs.Ytiibpchbjaklcaa.TrkF Go.Proofs.Ytiibpchbjaklcaa.TrkG Go.Proofs.Ytiibpchbjaklcaa.TrkH Go.Proofs.Ytiibpchbjaklcaa.TrkJ Go.Proofs.Ytiibpchbjaklcaa.TrkK Go.Proofs.Ytiibpchbjaklcaa.TrkL Go.Proofs.Ytiibpchbjaklcaa.TrkM Go.Proofs.Ytiibpchbjaklcaa.TrkN Go.Proofs.Ytiibpchbjaklcaa.SrcT
open Go.Proofs.Ytiibpchbjaklcaa.SrcA (Bys Some64 r8Long_any r8At_any r8Wide_any)

set_option maxHeartbeats 40000000 in
theorem fnCars (A A' : Option Addr) (n n' c c' : Nat) (w : World) (hA : Bys w w.heap.size A n) (hA' : Bys w w.heap.size A' n') (hn : n ≤ 9223372036854775807) (hn' : n' ≤ 9223372036854775807) :
    Calls Try.prog 3 #[.slice A n c, .slice A' n' c'] w fun e w' => e = .returned (.bool true) ∧ Below w.heap.size w w' := by
  have HL := Lib.hid (r8Long_any A A' n n' c c' hn hn' w)
  by_cases hlong : (decide (1048576 < n) || decide (1048576 < n')) = true
  · rw [hlong] at HL
    clear hlong
    go_enter Try.func3, Try.ntmps3
    go_wp2_with fail
    refine HL.out.mono ?_
    rintro e w1 ⟨rfl, rfl⟩
    go_wp2_with fail
    go_ret
    exact ⟨rfl, Below.refl _ _⟩
  have hl2 := Bool.eq_false_iff.2 hlong
  rw [hl2] at HL
  rw [Bool.or_eq_false_iff, decide_eq_false_iff_not, decide_eq_false_iff_not] at hl2
  have hn1 : n ≤ 1048576 := by omega
  have hn2 : n' ≤ 1048576 := by omega
  clear hlong hl2
  have HT := Lib.hid (r8Track_any A n c w hA hn1)
  have HA' := Lib.hid hA'
  clear hA hA'
  go_enter Try.func3, Try.ntmps3
  go_wp2_with fail
  refine HL.out.mono ?_
  rintro e w1 ⟨rfl, rfl⟩
  go_wp2_with fail
  refine HT.out.mono ?_
  rintro e w1 ⟨g, cp, l, lf, lu, rfl, hg1, hg2, hsec, hdr, hb1⟩
  have HH0 := Lib.hid (Hold.new (cp := cp) (lf := lf) (lu := lu) hsec (HA'.out.below hb1 hb1.size))
  have HB0 : Hid (Below w.heap.size w (w1.alloc (.cells #[.slice (some ⟨g, 0, none⟩) l.length cp, .int .i64 lf, .int .i64 lu] 26))) := hb1.trans ((Below.alloc (Below.refl _ _) (Nat.le_refl _) _ : Below w1.heap.size w1 _).mono hb1.size)
  have hlen := hdr.len
  have hval := hdr.valid
  have hll := hdr.good.1
  have hll2 : l.length ≤ 1048576 := by omega
  obtain ⟨N, hN⟩ : ∃ N, N = lenAll l := ⟨_, rfl⟩
  rw [← hN] at hlen
  obtain ⟨elow, ehigh, hlf1, hlf2, hsum⟩ := low_is hdr
  have eleast := least_is hdr
  rw [← hN] at hsum eleast
  have htb := trackB_iff.2 hval
  clear hsec hb1 hg1 hg2
  have HDR := Lib.hid hdr
  have HVAL := Lib.hid hval
  have HN := Lib.hid hN
  have HSUM := Lib.hid hsum
  clear hdr hval
  go_wp2_with fail
  generalize w1.alloc (.cells #[.slice (some ⟨g, 0, none⟩) l.length cp, .int .i64 lf, .int .i64 lu] 26) = W0 at *
  generalize w1.heap.size = b at *
  have H1 : Hid (∀ W, Hold W b g cp l lf lu A' n' → Calls Try.prog 6 #[.agg #[.slice (some ⟨g, 0, none⟩) l.length cp, .int .i64 lf, .int .i64 lu]] W fun e w' => e = .returned (.tuple #[.int .i64 N, .int .i64 0]) ∧ Below W.heap.size W w') := fun W h => by
    have h1 := specTrackLength_any (some ⟨g, 0, none⟩) l.length cp lf lu l W h.secs hll2
    rw [htb, ← hN] at h1
    exact h1
  have HW1 := Lib.hid (fun W (h : Hold W b g cp l lf lu A' n') => r8Wide_any A' n' c' 0 60000 (by omega) (by omega) W h.bys hn2)
  have HW2 := Lib.hid (fun W (h : Hold W b g cp l lf lu A' n') => r8At_any A' n' c' 2 3 (by omega) (by omega) W h.bys hn2)
  have HW3 := Lib.hid (fun W (h : Hold W b g cp l lf lu A' n') => r8Wide_any A' n' c' 3 6000 (by omega) (by omega) W h.bys hn2)
  have HF : Hid (1000 ≤ lf ∧ lf ≤ lu) := ⟨hlf1, hlf2⟩
  have hlf3 : lf ≤ 1095000 := by omega
  have hlu3 : lu ≤ 1095000 := by omega
  have HTB := Lib.hid htb
  have HEL := Lib.hid (And.intro elow (And.intro ehigh eleast))
  clear htb hN hsum elow ehigh eleast hll
  obtain ⟨c0, c1, c2⟩ := (And.intro HH0.out.c0 (And.intro HH0.out.c1 HH0.out.c2))
  refine (H1.out _ HH0.out).mono ?_
  rintro e v1 ⟨rfl, hb⟩
  have HH1 := Lib.hid (HH0.out.below hb)
  have HB1 := Lib.hid (HB0.out.trans (hb.mono HB0.out.size))
  clear hb c0 c1 c2 HH0
  obtain ⟨c0, c1, c2⟩ := (And.intro HH1.out.c0 (And.intro HH1.out.c1 HH1.out.c2))
  go_wp2_with fail
  have hN1 : N + 1 ≠ 0 := by omega
  have HN1 := Lib.hid hN1
  clear hN1
  refine (HW1.out _ HH1.out).mono ?_
  rintro e va ⟨a, a0, a1, rfl, rfl⟩
  go_wp2_with fail
  refine (HW2.out _ HH1.out).mono ?_
  rintro e vd ⟨d, d0, d1, rfl, rfl⟩
  go_upto_if 54 with fail
  go_cut [8] (fun xv wx => ∃ x : Int, xv = .int .i64 x ∧ 0 ≤ x ∧ x ≤ N ∧ wx = v1)
  case first =>
    have r1 := Int.emod_nonneg (a * 53) (show N + 1 ≠ 0 by omega)
    have r2 := Int.emod_lt_of_pos (a * 53) (show 0 < N + 1 by omega)
    by_cases hd : d = 0
    · subst hd
      go_wp2_with fail
      refine (HW3.out _ HH1.out).mono ?_
      rintro e vf ⟨f, f0, f1, rfl, rfl⟩
      go_wp2_with fail
      go_meet
      exact ⟨_, rfl, by omega, by omega, rfl⟩
    · have hd2 : (d == 0) = false := by rw [beq_eq_false_iff_ne]; exact hd
      clear hd
      go_wp2_with fail
      go_meet
      exact ⟨_, rfl, r1, by omega, rfl⟩
  case rest =>
  as_aux_lemma =>
  obtain ⟨x, rfl, hx0, hx1, rfl⟩ := hcut
  obtain ⟨y, hy⟩ : ∃ y, y = N - x := ⟨_, rfl⟩
  obtain ⟨ap, hap⟩ : ∃ ap, ap = absI (N - 2 * x) := ⟨_, rfl⟩
  obtain ⟨rise, hrise⟩ : ∃ rise, rise = hAt l (N - x) - hAt l x := ⟨_, rfl⟩
  obtain ⟨fall, hfall⟩ : ∃ fall, fall = hAt l (N - y) - hAt l y := ⟨_, rfl⟩
  obtain ⟨LE, hLE⟩ : ∃ LE, LE = N - 2 * (lf - 1) := ⟨_, rfl⟩
  obtain ⟨EQ, hEQ⟩ : ∃ EQ, EQ = eqR l := ⟨_, rfl⟩
  obtain ⟨IN, hIN⟩ : ∃ IN, IN = inB x lf lu := ⟨_, rfl⟩
  obtain ⟨P, hP⟩ : ∃ P, P = hAt l (N - EQ) - hAt l EQ := ⟨_, rfl⟩
  obtain ⟨Q, hQ⟩ : ∃ Q, Q = vI (onB l lf lu (EQ - 1)) (hAt l (N - (EQ - 1)) - hAt l (EQ - 1)) := ⟨_, rfl⟩
  obtain ⟨QC, hQC⟩ : ∃ QC, QC = onI l lf lu (EQ - 1) := ⟨_, rfl⟩
  have hN := HN.out
  have hval := HVAL.out
  have htb := HTB.out
  obtain ⟨elow, ehigh, eleast⟩ := HEL.out
  have hbdx := hAt_bds hval.good (x := x) (by omega)
  have hbdy := hAt_bds hval.good (x := N - x) (by omega)
  have HSU := HSUM.out
  have hf12 := HF.out
  obtain ⟨e1, e2⟩ := onB_yes (x := x) hval (by omega)
  obtain ⟨e3, e4⟩ := onB_yes (x := y) hval (by omega)
  obtain ⟨q1, q2, q3, q4⟩ := eq_facts hval.good
  rw [← hEQ] at q1 q2 q3 q4
  rw [← hN] at q2 q3 q4
  obtain ⟨e5, e6⟩ := onB_yes (x := EQ) hval (by omega)
  obtain ⟨lo1, lo2⟩ := loop_ok htb (show lowL l lf lu ≤ highL l lf lu by omega)
  have K9 : Hid (∀ W, Hold W b g cp l lf lu A' n' → Calls Try.prog 9 #[.agg #[.slice (some ⟨g, 0, none⟩) l.length cp, .int .i64 lf, .int .i64 lu], .int .i64 x] W fun e w' => e = .returned (.tuple #[.int .i64 y, .int .i64 0]) ∧ Below W.heap.size W w') := fun W h => by
    have h1 := implOtherPlace_any (some ⟨g, 0, none⟩) l.length cp lf lu l x W h.secs hll2
    rw [e1, e2, ← hN, ← hy] at h1
    exact h1
  have K10 : Hid (∀ W, Hold W b g cp l lf lu A' n' → Calls Try.prog 10 #[.agg #[.slice (some ⟨g, 0, none⟩) l.length cp, .int .i64 lf, .int .i64 lu], .int .i64 x] W fun e w' => e = .returned (.tuple #[.int .i64 ap, .int .i64 0]) ∧ Below W.heap.size W w') := fun W h => by
    have h1 := implCarsApart_any (some ⟨g, 0, none⟩) l.length cp lf lu l x W h.secs hll2
    rw [e1, e2, ← hN, ← hap] at h1
    exact h1
  have K11 : Hid (∀ W, Hold W b g cp l lf lu A' n' → Calls Try.prog 10 #[.agg #[.slice (some ⟨g, 0, none⟩) l.length cp, .int .i64 lf, .int .i64 lu], .int .i64 y] W fun e w' => e = .returned (.tuple #[.int .i64 ap, .int .i64 0]) ∧ Below W.heap.size W w') := fun W h => by
    have h1 := implCarsApart_any (some ⟨g, 0, none⟩) l.length cp lf lu l y W h.secs hll2
    rw [e3, e4, ← hN, show absI (N - 2 * y) = ap by rw [hap, hy]; unfold absI; split <;> split <;> omega] at h1
    exact h1
  have K12 : Hid (∀ W, Hold W b g cp l lf lu A' n' → Calls Try.prog 11 #[.agg #[.slice (some ⟨g, 0, none⟩) l.length cp, .int .i64 lf, .int .i64 lu], .int .i64 x] W fun e w' => e = .returned (.tuple #[.int .i64 rise, .int .i64 0]) ∧ Below W.heap.size W w') := fun W h => by
    have h1 := implHeightBetween_any (some ⟨g, 0, none⟩) l.length cp lf lu l x W h.secs hll2
    rw [e1, e2, ← hN, ← hrise] at h1
    exact h1
  have K13 : Hid (∀ W, Hold W b g cp l lf lu A' n' → Calls Try.prog 11 #[.agg #[.slice (some ⟨g, 0, none⟩) l.length cp, .int .i64 lf, .int .i64 lu], .int .i64 y] W fun e w' => e = .returned (.tuple #[.int .i64 fall, .int .i64 0]) ∧ Below W.heap.size W w') := fun W h => by
    have h1 := implHeightBetween_any (some ⟨g, 0, none⟩) l.length cp lf lu l y W h.secs hll2
    rw [e3, e4, ← hN, ← hfall] at h1
    exact h1
  have K14 : Hid (∀ W, Hold W b g cp l lf lu A' n' → Calls Try.prog 12 #[.agg #[.slice (some ⟨g, 0, none⟩) l.length cp, .int .i64 lf, .int .i64 lu]] W fun e w' => e = .returned (.tuple #[.int .i64 N, .int .i64 0]) ∧ Below W.heap.size W w') := fun W h => by
    have h1 := implMeetingHalves_any (some ⟨g, 0, none⟩) l.length cp lf lu l W h.secs hll2
    rw [htb, ← hN] at h1
    exact h1
  have K15 : Hid (∀ W, Hold W b g cp l lf lu A' n' → Calls Try.prog 14 #[.agg #[.slice (some ⟨g, 0, none⟩) l.length cp, .int .i64 lf, .int .i64 lu]] W fun e w' => e = .returned (.tuple #[.int .i64 lf, .int .i64 lu, .int .i64 0]) ∧ Below W.heap.size W w') := fun W h => by
    have h1 := implLoopPlaces_any (some ⟨g, 0, none⟩) l.length cp lf lu l W h.secs hll2
    rw [lo1, lo2, elow, ehigh] at h1
    exact h1
  have K16 : Hid (∀ W, Hold W b g cp l lf lu A' n' → Calls Try.prog 15 #[.agg #[.slice (some ⟨g, 0, none⟩) l.length cp, .int .i64 lf, .int .i64 lu]] W fun e w' => e = .returned (.tuple #[.int .i64 LE, .int .i64 0]) ∧ Below W.heap.size W w') := fun W h => by
    have h1 := implLeastApart_any (some ⟨g, 0, none⟩) l.length cp lf lu l W h.secs hll2
    have a1 : lstC l lf lu = 0 := by unfold lstC; rw [if_pos htb, if_pos (by rw [eleast]; omega)]
    have a2 : lstOk l lf lu = true := by unfold lstOk; rw [a1]; rfl
    rw [a1, a2, eleast, ← hLE] at h1
    exact h1
  have K17 : Hid (∀ W, Hold W b g cp l lf lu A' n' → Calls Try.prog 16 #[.agg #[.slice (some ⟨g, 0, none⟩) l.length cp, .int .i64 lf, .int .i64 lu], .int .i64 x] W fun e w' => e = .returned (.bool IN) ∧ Below W.heap.size W w') := fun W h => by
    have h1 := implBothInLoop_any (some ⟨g, 0, none⟩) l.length cp lf lu l x W h.secs hll2
    rw [e1, elow, ehigh, Bool.true_and, ← hIN] at h1
    exact h1
  have inY : inB y lf lu = inB x lf lu := by
    have hs := HSUM.out
    rw [Bool.eq_iff_iff, inB_iff, inB_iff]
    omega
  have K18 : Hid (∀ W, Hold W b g cp l lf lu A' n' → Calls Try.prog 16 #[.agg #[.slice (some ⟨g, 0, none⟩) l.length cp, .int .i64 lf, .int .i64 lu], .int .i64 y] W fun e w' => e = .returned (.bool IN) ∧ Below W.heap.size W w') := fun W h => by
    have h1 := implBothInLoop_any (some ⟨g, 0, none⟩) l.length cp lf lu l y W h.secs hll2
    rw [e3, elow, ehigh, Bool.true_and, inY, ← hIN] at h1
    exact h1
  have K19 : Hid (∀ W, Hold W b g cp l lf lu A' n' → Calls Try.prog 17 #[.agg #[.slice (some ⟨g, 0, none⟩) l.length cp, .int .i64 lf, .int .i64 lu], .int .i64 LE] W fun e w' => e = .returned (.bool true) ∧ Below W.heap.size W w') := fun W h => by
    have h1 := implIsSafeTrack_any (some ⟨g, 0, none⟩) l.length cp lf lu l LE W h.secs hll2
    have a1 : safeB l lf lu LE = true := by unfold safeB; rw [elow, ehigh, eleast, ← hLE]; simp; omega
    rw [htb, a1, inB_iff.2 (show 0 ≤ LE ∧ LE ≤ 3000000 by omega)] at h1
    exact h1
  have K20 : Hid (∀ W, Hold W b g cp l lf lu A' n' → Calls Try.prog 17 #[.agg #[.slice (some ⟨g, 0, none⟩) l.length cp, .int .i64 lf, .int .i64 lu], .int .i64 (LE + 1)] W fun e w' => e = .returned (.bool false) ∧ Below W.heap.size W w') := fun W h => by
    have h1 := implIsSafeTrack_any (some ⟨g, 0, none⟩) l.length cp lf lu l (LE + 1) W h.secs hll2
    have a1 : safeB l lf lu (LE + 1) = false := by unfold safeB; rw [elow, ehigh, eleast, ← hLE]; simp; omega
    rw [htb, a1, Bool.and_false, Bool.and_false] at h1
    exact h1
  have K21 : Hid (∀ W, Hold W b g cp l lf lu A' n' → Calls Try.prog 18 #[.agg #[.slice (some ⟨g, 0, none⟩) l.length cp, .int .i64 lf, .int .i64 lu]] W fun e w' => e = .returned (.tuple #[.int .i64 EQ, .int .i64 0]) ∧ Below W.heap.size W w') := fun W h => by
    have h1 := implEqualHeight_any (some ⟨g, 0, none⟩) l.length cp lf lu l W h.secs hll2
    rw [htb, ← hEQ] at h1
    exact h1
  have K22 : Hid (∀ W, Hold W b g cp l lf lu A' n' → Calls Try.prog 19 #[.agg #[.slice (some ⟨g, 0, none⟩) l.length cp, .int .i64 lf, .int .i64 lu], .int .i64 EQ] W fun e w' => e = .returned (.tuple #[.int .i64 P, .int .i64 0]) ∧ Below W.heap.size W w') := fun W h => by
    have h1 := specHeightBetween_any (some ⟨g, 0, none⟩) l.length cp lf lu l EQ W h.secs hll2
    rw [e5, e6, ← hN, ← hP] at h1
    exact h1
  have K23 : Hid (∀ W, Hold W b g cp l lf lu A' n' → Calls Try.prog 19 #[.agg #[.slice (some ⟨g, 0, none⟩) l.length cp, .int .i64 lf, .int .i64 lu], .int .i64 (EQ - 1)] W fun e w' => e = .returned (.tuple #[.int .i64 Q, .int .i64 QC]) ∧ Below W.heap.size W w') := fun W h => by
    have h1 := specHeightBetween_any (some ⟨g, 0, none⟩) l.length cp lf lu l (EQ - 1) W h.secs hll2
    rw [← hN, ← hQ, ← hQC] at h1
    exact h1
  have KAB := Lib.hid (fun W => r8Abs_any (x - y) (by omega) W)
  rw [show absI (x - y) = ap by rw [hap, hy]; unfold absI; split <;> split <;> omega] at KAB
  have KL : Hid (∀ a, 0 ≤ a → a ≤ 59999 → ∃ LV LC : Int, (∀ W, Hold W b g cp l lf lu A' n' → Calls Try.prog 20 #[.agg #[.slice (some ⟨g, 0, none⟩) l.length cp, .int .i64 lf, .int .i64 lu], .int .i64 a] W fun e w' => e = .returned (.tuple #[.int .i64 LV, .int .i64 LC]) ∧ Below W.heap.size W w') ∧ ((N < a ∧ LC = 3) ∨ (a ≤ N ∧ LC = 0 ∧ 0 ≤ LV ∧ LV ≤ 1095000 ∧ a ≤ N - 2 * LV ∧ N - 2 * (LV + 1) < a))) := fun a a0 a1 => by
    refine ⟨lastV l lf lu a, lastC l lf lu a, fun W h => implLastApart_any (some ⟨g, 0, none⟩) l.length cp lf lu l a W h.secs hll2, ?_⟩
    have hin := inB_iff.2 (show 0 ≤ a ∧ a ≤ 3000000 by omega)
    have eC : lastC l lf lu a = if N < a then 3 else 0 := by unfold lastC; rw [if_pos htb, if_pos hin, ← hN]
    by_cases h : N < a
    · exact .inl ⟨h, by rw [eC, if_pos h]⟩
    · have e0 : lastC l lf lu a = 0 := by rw [eC, if_neg h]
      have eV : lastV l lf lu a = (N - a) / 2 := by unfold lastV; rw [if_pos e0, ← hN]
      rw [e0, eV]
      exact .inr ⟨by omega, rfl, by omega, by omega, by omega, by omega⟩
  have hxy : x + y = N := by omega
  have HNEG : Hid (-fall = rise) := by show -fall = rise; rw [hfall, hrise, hy]; rw [show N - (N - x) = x by omega]; omega
  have hfb : -32400000 ≤ fall ∧ fall ≤ 32400000 := by rw [hfall, hy, show N - (N - x) = x by omega]; omega
  have HQ : Hid (QC = 0 → 0 < Q) := fun h => by
    have hq0 : 0 < EQ := by
      rcases Int.lt_or_le 0 EQ with h2 | h2
      · exact h2
      · exfalso
        have e0 : EQ = 0 := by omega
        have hno : inB (EQ - 1) 0 (lenAll l) = false := by rw [inB_not]; omega
        rw [hQC, onI_out htb hno] at h
        omega
    obtain ⟨e7, e8⟩ := onB_yes (x := EQ - 1) hval (by omega)
    rw [hQ, e7]
    exact q4 hq0
  have hPle : P ≤ 0 := by rw [hP]; exact q3
  have hEQ1 : 0 ≤ EQ ∧ EQ ≤ 1095000 := by omega
  have hLE1 : 0 ≤ LE ∧ LE ≤ 1095000 := by have := HF.out; omega
  have HAPL : Hid (¬ (lf ≤ x ∧ x ≤ lu) → LE ≤ ap) := fun h => by
    have hs := HSUM.out
    rw [hap]
    unfold absI
    split <;> omega
  have hapb : 0 ≤ ap ∧ ap ≤ 1095000 := by rw [hap]; unfold absI; split <;> omega
  have hrb : -32400000 ≤ rise ∧ rise ≤ 32400000 := by rw [hrise]; omega
  have hyb : 0 ≤ y ∧ y ≤ N := by omega
  have HXY := Lib.hid hxy
  have HY := Lib.hid hy
  have HIN := Lib.hid hIN
  have HR18 : Hid (RestC18 A A' n n' c c' w b g cp l lf lu N) := part18 A A' n n' c c' w b g cp l lf lu N EQ P Q QC hn2 K21 K22 K23 KL HQ hPle hEQ1.1 hEQ1.2
  have HR13 : Hid (RestC13 A A' n n' c c' w b g cp l lf lu N x y ap) := part13 A A' n n' c c' w b g cp l lf lu N x y ap LE IN K15 K16 K17 K18 K19 K20 HAPL HIN HSUM HY hLE1.1 hLE1.2 (by omega) hlu3 (by omega) (by omega) HR18
  clear hf12 hN hval htb elow ehigh eleast hbdx hbdy e1 e2 e3 e4 e5 e6 q1 q2 q3 q4 lo1 lo2 hap hrise hfall hLE hEQ hP hQ hQC inY hxy H1 HW1 HW2 HW3 K15 K16 K17 K18 K19 K20 K21 K22 K23 KL HQ hPle HAPL HR18
  clear hy HSU hIN
  obtain ⟨hapb1, hapb2⟩ := hapb
  obtain ⟨hrb1, hrb2⟩ := hrb
  obtain ⟨hyb1, hyb2⟩ := hyb
  obtain ⟨hfb1, hfb2⟩ := hfb
  obtain ⟨hlen1, hlen2⟩ := hlen
  go_wp2_with fail
  refine (K9.out _ HH1.out).mono ?_
  rintro e v2 ⟨rfl, hb⟩
  have HH2 := Lib.hid (HH1.out.below hb)
  have HB2 := Lib.hid (HB1.out.trans (hb.mono HB1.out.size))
  clear hb c0 c1 c2 HH1
  obtain ⟨c0, c1, c2⟩ := (And.intro HH2.out.c0 (And.intro HH2.out.c1 HH2.out.c2))
  go_wp2_with fail
  refine (K10.out _ HH2.out).mono ?_
  rintro e v3 ⟨rfl, hb⟩
  have HH3 := Lib.hid (HH2.out.below hb)
  have HB3 := Lib.hid (HB2.out.trans (hb.mono HB2.out.size))
  clear hb c0 c1 c2 HH2
  obtain ⟨c0, c1, c2⟩ := (And.intro HH3.out.c0 (And.intro HH3.out.c1 HH3.out.c2))
  go_wp2_with fail
  refine (K11.out _ HH3.out).mono ?_
  rintro e v4 ⟨rfl, hb⟩
  have HH4 := Lib.hid (HH3.out.below hb)
  have HB4 := Lib.hid (HB3.out.trans (hb.mono HB3.out.size))
  clear hb c0 c1 c2 HH3
  obtain ⟨c0, c1, c2⟩ := (And.intro HH4.out.c0 (And.intro HH4.out.c1 HH4.out.c2))
  go_wp2_with fail
  refine (K12.out _ HH4.out).mono ?_
  rintro e v5 ⟨rfl, hb⟩
  have HH5 := Lib.hid (HH4.out.below hb)
  have HB5 := Lib.hid (HB4.out.trans (hb.mono HB4.out.size))
  clear hb c0 c1 c2 HH4
  obtain ⟨c0, c1, c2⟩ := (And.intro HH5.out.c0 (And.intro HH5.out.c1 HH5.out.c2))
  go_wp2_with fail
  refine (K13.out _ HH5.out).mono ?_
  rintro e v6 ⟨rfl, hb⟩
  have HH6 := Lib.hid (HH5.out.below hb)
  have HB6 := Lib.hid (HB5.out.trans (hb.mono HB5.out.size))
  clear hb c0 c1 c2 HH5
  obtain ⟨c0, c1, c2⟩ := (And.intro HH6.out.c0 (And.intro HH6.out.c1 HH6.out.c2))
  go_wp2_with fail
  have hneg := HNEG.out
  have hxy := HXY.out
  refine (K14.out _ HH6.out).mono ?_
  rintro e v7 ⟨rfl, hb⟩
  have HH7 := Lib.hid (HH6.out.below hb)
  have HB7 := Lib.hid (HB6.out.trans (hb.mono HB6.out.size))
  clear hb c0 c1 c2 HH6
  obtain ⟨c0, c1, c2⟩ := (And.intro HH7.out.c0 (And.intro HH7.out.c1 HH7.out.c2))
  go_upto_region 14 with fail
  rename_i Kr hKr Kc hKc
  have HK := Lib.hid hKr
  clear hKr
  go_wp2_with fail
  refine (KAB.out _).mono ?_
  rintro e vab ⟨rfl, rfl⟩
  go_wp2_with fail
  refine HK.out _ _ ?_
  exact HR13.out _ _ _ _ _ _ _ _ _ _ _ _ _ _ _ _ _ _ _ _ _ _ _ _ _ _ _ _ _ _ _ _ _ _ _ _ _ _ _ _ _ _ _ _ _ _ _ _ _ _ _ _ _ _ _ _ _ _ _ _ _ _ _ _ _ _ _ _ _ _ _ _ _ _ _ _ _ _ _ _ _ _ _ _ _ _ _ _ _ _ _ _ _ _ _ _ _ _ _ _ _ _ _ _ _ _ _ _ _ _ _ _ _ _ _ _ _ _ _ _ _ _ _ _ _ _ _ _ _ _ _ _ _ _ _ _ _ _ _ _ _ _ _ _ _ _ _ _ _ _ _ _ _ _ _ _ _ _ _ _ _ _ _ _ _ _ _ _ _ _ _ _ _ _ _ _ _ _ _ _ _ _ _ _ _ _ _ _ _ _ _ _ _ _ _ _ _ _ _ _ _ _ _ _ _ _ _ _ _ _ _ _ _ _ _ _ _ _ _ _ _ _ _ _ _ _ _ _ _ _ _ _ _ _ _ _ _ _ _ _ _ _ _ _ _ _ _ _ _ _ _ _ _ _ _ _ _ _ _ _ _ _ _ _ _ _ _ _ _ _ _ _ _ _ _ _ _ _ _ _ _ _ _ _ _ _ _ _ _ _ _ _ _ _ _ _ _ _ HH7 HB7
end Go.Proofs.Ytiibpchbjaklcaa.CarL
