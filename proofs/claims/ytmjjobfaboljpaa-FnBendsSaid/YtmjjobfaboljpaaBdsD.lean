/- The law on bends, its head over the other parts. -/
import Derived.Test.YtmjjobfaboljpaaBdsA
import Derived.Test.YtmjjobfaboljpaaBdsB
import Derived.Test.YtmjjobfaboljpaaBdsC
import Derived.Test.YtmjjobfaboljpaaBdrC
import Derived.Test.YtmjjobfaboljpaaBdrP
import Derived.Test.YtmjjobfaboljpaaBndD
import Derived.Test.YtmjjobfaboljpaaBndE
import Derived.Test.YtmjjobfaboljpaaBndF
import Derived.Test.YtmjjobfaboljpaaBlsE
import Derived.Test.YtmjjobfaboljpaaWalkG
import Derived.Deep.DeepCutAuto
namespace Go.Proofs.Ytmjjobfaboljpaa.BdsD
set_option maxRecDepth 100000
open Go.Proofs.Ytmjjobfaboljpaa.BdsA Go.Proofs.Ytmjjobfaboljpaa.BdsB Go.Proofs.Ytmjjobfaboljpaa.BdsC Go.RowKit Go.Proofs.Ytmjjobfaboljpaa.Plain Go.Proofs.Ytmjjobfaboljpaa.WalkA Go.Proofs.Ytmjjobfaboljpaa.WalkB Go.Proofs.Ytmjjobfaboljpaa.WalkC Go.Proofs.Ytmjjobfaboljpaa.WalkF Go.Proofs.Ytmjjobfaboljpaa.WalkG Go.Proofs.Ytmjjobfaboljpaa.WalkH Go.Proofs.Ytmjjobfaboljpaa.BndA Go.Proofs.Ytmjjobfaboljpaa.BLaw Go.Proofs.Ytmjjobfaboljpaa.BndC Go.Proofs.Ytmjjobfaboljpaa.BndD Go.Proofs.Ytmjjobfaboljpaa.BndE Go.Proofs.Ytmjjobfaboljpaa.BndF Go.Proofs.Ytmjjobfaboljpaa.BlsA Go.Proofs.Ytmjjobfaboljpaa.BlsD Go.Proofs.Ytmjjobfaboljpaa.BlsE Go.Proofs.Ytmjjobfaboljpaa.BdrB Go.Proofs.Ytmjjobfaboljpaa.BdrC Go.Proofs.Ytmjjobfaboljpaa.BdrP
open Go.Proofs.Ytmjjobfaboljpaa.SrcA (Bys)
open Go.Proofs.Ytmjjobfaboljpaa.BdrA (b10Long_any)
set_option maxRecDepth 1000000 in
set_option maxHeartbeats 8000000 in
theorem fnBends (A A' : Option Addr) (n n' c c' : Nat) (w : World) (hA : Bys w w.heap.size A n) (hA' : Bys w w.heap.size A' n') (hn : n ≤ 9223372036854775807) (hn' : n' ≤ 9223372036854775807) :
    Calls Try.prog 3 #[.slice A n c, .slice A' n' c'] w fun e w' => e = .returned (.bool true) ∧ Below w.heap.size w w' := by
  have HL := Lib.hid (b10Long_any A n c hn w)
  have HL' := Lib.hid (b10Long_any A' n' c' hn' w)
  by_cases hl : 1048576 < n
  · rw [decide_eq_true hl] at HL
    clear hl HL'
    go_enter Try.func3, Try.ntmps3
    go_wp2_with fail
    refine HL.out.mono ?_
    rintro e w1 ⟨rfl, rfl⟩
    go_wp2_with fail
    go_ret
    exact ⟨rfl, Below.refl _ _⟩
  rw [decide_eq_false hl] at HL
  by_cases hl' : 1048576 < n'
  · rw [decide_eq_true hl'] at HL'
    clear hl hl'
    go_enter Try.func3, Try.ntmps3
    go_wp2_with fail
    refine HL.out.mono ?_
    rintro e w1 ⟨rfl, rfl⟩
    go_wp2_with fail
    refine HL'.out.mono ?_
    rintro e w1 ⟨rfl, rfl⟩
    go_wp2_with fail
    go_ret
    exact ⟨rfl, Below.refl _ _⟩
  rw [decide_eq_false hl'] at HL'
  have hn1 : n ≤ 1048576 := by omega
  have hn2 : n' ≤ 1048576 := by omega
  have HA := Lib.hid hA
  have HA' := Lib.hid hA'
  have HD := Lib.hid (drawSpeedIn_any A n c w hA hn1)
  clear hl hl' hA hA' hn hn'
  go_enter Try.func3, Try.ntmps3
  go_wp2_with fail
  refine HL.out.mono ?_
  rintro e w1 ⟨rfl, rfl⟩
  go_wp2_with fail
  refine HL'.out.mono ?_
  rintro e w1 ⟨rfl, rfl⟩
  go_wp2_with fail
  refine HD.out.mono ?_
  rintro e W1 ⟨s, r, l, cc, m, hss, rfl, hb⟩
  have HB1 := Lib.hid hb
  have hz : s.size ≤ 9223372036854775807 := by omega
  have HI := Lib.hid (fun W' => implSpeedIn_any s r l cc m hz W')
  obtain ⟨q0, q1, q2, q3, q4, q5⟩ := boxed4 W1 25 (.string s) (.int .i64 r) (.int .i64 l) (.int .i64 cc)
  have HB2 := Lib.hid (HB1.out.trans (q4.mono HB1.out.size))
  have HR2 := Lib.hid (SrcA.RowAt.new W1 25 #[.string s, .int .i64 r, .int .i64 l, .int .i64 cc])
  clear q4 q5 hb HD HL HL'
  by_cases hok : bendB s r l cc = true ∧ inB m 0 5000 = true
  · obtain ⟨v1, v2⟩ := hok
    rw [v1, v2] at HI
    have m0 := (inB_iff.1 v2).1
    obtain ⟨b0, b1, b2, b3⟩ := bendB_iff.1 v1
    obtain ⟨f1, f2, f3, f4⟩ := spd_facts (r := r) (c := cc) (m := m) (by omega) b3.1 m0
    have f5 := spd_even (r := r) (c := cc) (m := m) (by omega) m0
    obtain ⟨V, hV⟩ : ∃ V, V = spdT r cc m - 1 := ⟨_, rfl⟩
    obtain ⟨EV, hEV⟩ : ∃ EV, EV = spdT r cc 0 - 1 := ⟨_, rfl⟩
    have e1 : vB (true && true) (spdT r cc m - 1) = V := by rw [hV]; rfl
    have e2 : codC true true = 0 := rfl
    rw [e1, e2] at HI
    rw [← hV] at f1 f2 f3 f4 f5
    rw [← hEV] at f5
    have HS1 : Hid (∀ W', Calls Try.prog 7 #[.agg #[.string s, .int .i64 r, .int .i64 l, .int .i64 cc], .int .i64 V] W' fun e w' => e = .returned (.tuple #[.int .i64 (sideI r cc V), .int .i64 0]) ∧ Below W'.heap.size W' w') := fun W' => by
      have h1 := implSideOf_any s r l cc V hz W'
      obtain ⟨h2, h3⟩ := sof_ok (v := V) v1 (inB_iff.2 ⟨f1, f2⟩)
      rw [h2, h3] at h1
      exact h1
    have HS2 : Hid (∃ LS C : Int, (C = 0 → m < LS) ∧ ∀ W', Calls Try.prog 7 #[.agg #[.string s, .int .i64 r, .int .i64 l, .int .i64 cc], .int .i64 (V + 1)] W' fun e w' => e = .returned (.tuple #[.int .i64 LS, .int .i64 C]) ∧ Below W'.heap.size W' w') := by
      refine ⟨_, _, ?_, fun W' => implSideOf_any s r l cc (V + 1) hz W'⟩
      intro hc
      cases h4 : inB (V + 1) 0 20000
      · rw [(sof_out (v := V + 1) v1 h4).1] at hc
        omega
      · rw [(sof_ok (v := V + 1) v1 h4).2]
        exact f4 (inB_iff.1 h4).2
    have HE : Hid (∀ W', Calls Try.prog 8 #[.agg #[.string s, .int .i64 r, .int .i64 l, .int .i64 cc]] W' fun e w' => e = .returned (.tuple #[.int .i64 EV, .int .i64 0]) ∧ Below W'.heap.size W' w') := fun W' => by
      have h1 := implEvenSpeed_any s r l cc hz W'
      have h2 : inB 0 0 5000 = true := by decide
      rw [v1, h2] at h1
      have e3 : vB (true && true) (spdT r cc 0 - 1) = EV := by rw [hEV]; rfl
      rw [e3, e2] at h1
      exact h1
    obtain ⟨LS, C, hLC, hcall⟩ := HS2.out
    have HS3 := Lib.hid hcall
    have HLC := Lib.hid hLC
    have g1 : ¬ V < 0 := by omega
    have g2 : ¬ m < sideI r cc V := by omega
    have g3 : ¬ V < EV := by omega
    clear hcall hLC HS2 v1 v2 m0 b0 b1 b2 b3 f3 f4 f5 hV hEV e1 e2 hz hss
    generalize sideI r cc V = S1 at *
    go_wp2_with fail
    generalize W1.alloc (.cells #[.string s, .int .i64 r, .int .i64 l, .int .i64 cc] 25) = W2 at *
    generalize W1.heap.size = g at *
    refine (HI.out _).mono ?_
    rintro e W3 ⟨rfl, hb3⟩
    have HB3 := Lib.hid (HB2.out.trans (hb3.mono HB2.out.size))
    have HR3 := Lib.hid (HR2.out.below hb3)
    clear hb3 q0 q1 q2 q3 HI
    go_upto_region 5 with fail
    rename_i K5 hK5 Kc hKc
    have HK := Lib.hid hK5
    clear hK5
    obtain ⟨a0, a1, a2, a3, _⟩ := BdrA.row4 HR3.out
    go_wp2_with fail
    refine (HS1.out _).mono ?_
    rintro e W4 ⟨rfl, hb4⟩
    have HB4 := Lib.hid (HB3.out.trans (hb4.mono HB3.out.size))
    have HR4 := Lib.hid (HR3.out.below hb4)
    clear hb4 a0 a1 a2 a3
    obtain ⟨a0, a1, a2, a3, _⟩ := BdrA.row4 HR4.out
    go_wp2_with fail
    refine (HS3.out _).mono ?_
    rintro e W5 ⟨rfl, hb5⟩
    have HB5 := Lib.hid (HB4.out.trans (hb5.mono HB4.out.size))
    have HR5 := Lib.hid (HR4.out.below hb5)
    clear hb5 a0 a1 a2 a3
    obtain ⟨a0, a1, a2, a3, _⟩ := BdrA.row4 HR5.out
    go_wp2_with fail
    refine (HE.out _).mono ?_
    rintro e W6 ⟨rfl, hb6⟩
    have HB6 := Lib.hid (HB5.out.trans (hb6.mono HB5.out.size))
    clear hb6 a0 a1 a2 a3
    by_cases hC : C = 0
    · have hlw := HLC.out hC
      have hlw2 : ¬ LS ≤ m := by omega
      subst hC
      go_wp2_with fail
      refine HK.out _ _ ?_
      exact tail5 _ _ _ _ _ _ _ _ _ _ _ _ _ _ _ _ _ _ _ _ _ _ _ _ _ _ _ _ _ _ _ _ _ _ _ _ _ _ _ _ _ _ _ _ _ _ _ _ _ _ _ _ _ _ _ _ _ _ _ _ _ _ _ _ _ _ _ _ _ _ _ _ _ _ _ _ _ _ _ _ _ _ _ _ _ _ _ _ _ _ _ _ _ _ _ _ _ _ _ _ _ _ _ _ _ _ _ _ _ _ _ _ _ _ _ _ _ _ _ _ _ _ _ _ _ _ _ _ _ _ _ _ _ _ _ _ _ _ _ _ _ _ _ _ _ _ _ _ _ _ _ _ _ _ _ _ _ _ _ _ _ _ _ _ _ _ _ _ _ _ _ _ _ _ _ _ _ _ _ _ _ _ _ _ _ _ _ _ _ _ _ _ _ _ _ _ _ _ _ _ _ _ _ _ _ _ _ _ _ _ _ _ _ _ _ _ _ _ _ _ _ _ _ _ _ _ _ _ _ _ _ _ _ _ _ _ _ _ _ _ _ _ _ _ _ _ _ _ _ _ _ _ _ _ _ _ _ _ _ _ _ _ _ _ _ _ _ _ _ _ _ _ _ A A' n n' c c' w _ HA HA' hn1 hn2 HB6
    · have hC2 : (C == 0) = false := by rw [beq_eq_false_iff_ne]; exact hC
      clear hC
      go_wp2_with fail
      refine HK.out _ _ ?_
      exact tail5 _ _ _ _ _ _ _ _ _ _ _ _ _ _ _ _ _ _ _ _ _ _ _ _ _ _ _ _ _ _ _ _ _ _ _ _ _ _ _ _ _ _ _ _ _ _ _ _ _ _ _ _ _ _ _ _ _ _ _ _ _ _ _ _ _ _ _ _ _ _ _ _ _ _ _ _ _ _ _ _ _ _ _ _ _ _ _ _ _ _ _ _ _ _ _ _ _ _ _ _ _ _ _ _ _ _ _ _ _ _ _ _ _ _ _ _ _ _ _ _ _ _ _ _ _ _ _ _ _ _ _ _ _ _ _ _ _ _ _ _ _ _ _ _ _ _ _ _ _ _ _ _ _ _ _ _ _ _ _ _ _ _ _ _ _ _ _ _ _ _ _ _ _ _ _ _ _ _ _ _ _ _ _ _ _ _ _ _ _ _ _ _ _ _ _ _ _ _ _ _ _ _ _ _ _ _ _ _ _ _ _ _ _ _ _ _ _ _ _ _ _ _ _ _ _ _ _ _ _ _ _ _ _ _ _ _ _ _ _ _ _ _ _ _ _ _ _ _ _ _ _ _ _ _ _ _ _ _ _ _ _ _ _ _ _ _ _ _ _ _ _ _ _ A A' n n' c c' w _ HA HA' hn1 hn2 HB6
  · have hok2 : (codC (bendB s r l cc) (inB m 0 5000) == 0) = false := by
      rw [beq_eq_false_iff_ne]
      cases h1 : bendB s r l cc
      · simp [codC]
      · cases h2 : inB m 0 5000
        · simp [codC]
        · exact absurd ⟨h1, h2⟩ hok
    clear hok
    generalize codC (bendB s r l cc) (inB m 0 5000) = C at *
    generalize vB (bendB s r l cc && inB m 0 5000) (spdT r cc m - 1) = V at *
    go_wp2_with fail
    generalize W1.alloc (.cells #[.string s, .int .i64 r, .int .i64 l, .int .i64 cc] 25) = W2 at *
    refine (HI.out _).mono ?_
    rintro e W3 ⟨rfl, hb3⟩
    have HB3 := Lib.hid (HB2.out.trans (hb3.mono HB2.out.size))
    clear hb3 HI q0 q1 q2 q3
    go_upto_region 5 with fail
    rename_i K5 hK5 Kc hKc
    have HK := Lib.hid hK5
    clear hK5
    go_wp2_with fail
    refine HK.out _ _ ?_
    exact tail5 _ _ _ _ _ _ _ _ _ _ _ _ _ _ _ _ _ _ _ _ _ _ _ _ _ _ _ _ _ _ _ _ _ _ _ _ _ _ _ _ _ _ _ _ _ _ _ _ _ _ _ _ _ _ _ _ _ _ _ _ _ _ _ _ _ _ _ _ _ _ _ _ _ _ _ _ _ _ _ _ _ _ _ _ _ _ _ _ _ _ _ _ _ _ _ _ _ _ _ _ _ _ _ _ _ _ _ _ _ _ _ _ _ _ _ _ _ _ _ _ _ _ _ _ _ _ _ _ _ _ _ _ _ _ _ _ _ _ _ _ _ _ _ _ _ _ _ _ _ _ _ _ _ _ _ _ _ _ _ _ _ _ _ _ _ _ _ _ _ _ _ _ _ _ _ _ _ _ _ _ _ _ _ _ _ _ _ _ _ _ _ _ _ _ _ _ _ _ _ _ _ _ _ _ _ _ _ _ _ _ _ _ _ _ _ _ _ _ _ _ _ _ _ _ _ _ _ _ _ _ _ _ _ _ _ _ _ _ _ _ _ _ _ _ _ _ _ _ _ _ _ _ _ _ _ _ _ _ _ _ _ _ _ _ _ _ _ _ _ _ _ _ _ A A' n n' c c' w _ HA HA' hn1 hn2 HB3
theorem fnBends_law (A : Option Addr) (n c : Nat) (A' : Option Addr) (n' c' : Nat) (w : World) (hA : Bys w w.heap.size A n) (hn : n ≤ 9223372036854775807) (hA' : Bys w w.heap.size A' n') (hn' : n' ≤ 9223372036854775807) :
    Calls Try.prog 3 #[.slice A n c, .slice A' n' c'] w fun e w' => e = .returned (.bool true) ∧ Below w.heap.size w w' :=
  fnBends A A' n n' c c' w hA hA' hn hn'
end Go.Proofs.Ytmjjobfaboljpaa.BdsD
