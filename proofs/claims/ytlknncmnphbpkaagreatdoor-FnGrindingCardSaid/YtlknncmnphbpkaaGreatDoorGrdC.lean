/- The law on grinding, its head over the other parts: the greatest number of rides. -/
import Derived.Test.YtlknncmnphbpkaaGreatDoorGrdA
import Derived.Test.YtlknncmnphbpkaaGreatDoorGrdQ
import Derived.Test.YtlknncmnphbpkaaGreatDoorBdrA
import Derived.Deep.QuietTactic
import Derived.BigQuiet
namespace Go.Proofs.YtlknncmnphbpkaaGreatDoor.GrdC
open Go.Proofs.YtlknncmnphbpkaaGreatDoor.GrdA Go.Proofs.YtlknncmnphbpkaaGreatDoor.GrdQ
set_option maxRecDepth 100000
open Go.RowKit Go.Proofs.YtlknncmnphbpkaaGreatDoor.Plain Go.Proofs.YtlknncmnphbpkaaGreatDoor.WalkC Go.Proofs.YtlknncmnphbpkaaGreatDoor.WalkH Go.Proofs.YtlknncmnphbpkaaGreatDoor.BndA Go.Proofs.YtlknncmnphbpkaaGreatDoor.BndC Go.Proofs.YtlknncmnphbpkaaGreatDoor.BndE Go.Proofs.YtlknncmnphbpkaaGreatDoor.BndF Go.Proofs.YtlknncmnphbpkaaGreatDoor.BndG Go.Proofs.YtlknncmnphbpkaaGreatDoor.BlsA Go.Proofs.YtlknncmnphbpkaaGreatDoor.BlsD Go.Proofs.YtlknncmnphbpkaaGreatDoor.BlsE Go.Proofs.YtlknncmnphbpkaaGreatDoor.BdrB Go.Proofs.YtlknncmnphbpkaaGreatDoor.BdrC Go.Proofs.YtlknncmnphbpkaaGreatDoor.BdrD
open Go.Proofs.YtlknncmnphbpkaaGreatDoor.SrcA (Bys)
open Go.Proofs.YtlknncmnphbpkaaGreatDoor.BdrA (b10Long_any)
set_option maxRecDepth 1000000 in
set_option maxHeartbeats 8000000 in
theorem head (A A' : Option Addr) (n n' c c' : Nat) (w : World) (hA : Bys w w.heap.size A n) (hn : n ≤ 9223372036854775807) (hn' : n' ≤ 9223372036854775807) (HR5 : Hid (n ≤ 1048576 → n' ≤ 1048576 → RestG 5 A A' n n' c c' w)) :
    Calls Tryz.prog 3 #[.slice A n c, .slice A' n' c'] w fun e w' => e = .returned (.bool true) ∧ Below w.heap.size w w' := by
  have HL := Lib.hid (b10Long_any A n c hn w)
  have HL' := Lib.hid (b10Long_any A' n' c' hn' w)
  by_cases hl : 1048576 < n
  · rw [decide_eq_true hl] at HL
    clear hl HL'
    go_enter Tryz.func3, Tryz.ntmps3
    go_wp2_with fail
    refine HL.out.mono ?_
    rintro e w1 ⟨rfl, rfl⟩
    go_wp2_with fail
    go_ret
    exact ⟨rfl, Below.refl _ _⟩
  rw [decide_eq_false hl] at HL
  by_cases hl' : 1048576 < n'
  · rw [decide_eq_true hl'] at HL'
    clear hl hl'
    go_enter Tryz.func3, Tryz.ntmps3
    go_wp2_with fail
    refine HL.out.mono ?_
    rintro e w1 ⟨rfl, rfl⟩
    go_wp2_with fail
    refine HL'.out.mono ?_
    rintro e w1 ⟨rfl, rfl⟩
    go_wp2_with fail
    go_ret
    exact ⟨rfl, Below.refl _ _⟩
  rw [decide_eq_false hl'] at HL'
  have hn1 : n ≤ 1048576 := by omega
  have hn2 : n' ≤ 1048576 := by omega
  have HR := Lib.hid (HR5.out hn1 hn2)
  have HD := Lib.hid (drawRidesTo_any A n c w hA hn1)
  clear hl hl' hA hn hn' HR5
  go_enter Tryz.func3, Tryz.ntmps3
  go_wp2_with fail
  refine HL.out.mono ?_
  rintro e w1 ⟨rfl, rfl⟩
  go_wp2_with fail
  refine HL'.out.mono ?_
  rintro e w1 ⟨rfl, rfl⟩
  go_wp2_with fail
  refine HD.out.mono ?_
  rintro e W1 ⟨s, r, l, cc, x, y, hss, rfl, hb⟩
  have HB1 := Lib.hid hb
  have hz : s.size ≤ 9223372036854775807 := by omega
  have HI := Lib.hid (fun W' => implRidesToGrind_any s r l cc x y hz W')
  obtain ⟨q0, q1, q2, q3, q4, q5⟩ := boxed4 W1 25 (.string s) (.int .i64 r) (.int .i64 l) (.int .i64 cc)
  have HB2 := Lib.hid (HB1.out.trans (q4.mono HB1.out.size))
  have HR2 := Lib.hid (SrcA.RowAt.new W1 25 #[.string s, .int .i64 r, .int .i64 l, .int .i64 cc])
  clear q4 q5 hb HD HL HL'
  by_cases hok : bendB s r l cc = true ∧ (inB x 0 100000 && inB y 0 1000000) = true
  · obtain ⟨v1, v2⟩ := hok
    rw [v1, v2] at HI
    rw [Bool.and_eq_true] at v2
    obtain ⟨vx, vy⟩ := v2
    have x0 := inB_iff.1 vx
    have y0 := inB_iff.1 vy
    obtain ⟨b0, b1, b2, b3⟩ := bendB_iff.1 v1
    obtain ⟨f1, f2, f3, f4⟩ := rides_facts (r := r) (m := x) (y := y) (by omega) y0.1
    obtain ⟨V, hV⟩ : ∃ V, V = rgT r x y - 1 := ⟨_, rfl⟩
    have e2 : codC true true = 0 := rfl
    rw [vB_true, e2, ← hV] at HI
    rw [← hV] at f1 f2 f3 f4
    have HS1 : Hid (∀ W', Calls Tryz.prog 7 #[.agg #[.string s, .int .i64 r, .int .i64 l, .int .i64 cc], .int .i64 V, .int .i64 x] W' fun e w' => e = .returned (.tuple #[.int .i64 (wearI r V x), .int .i64 0]) ∧ Below W'.heap.size W' w') := fun W' => by
      have h1 := implRailWear_any s r l cc V x hz W'
      have h2 : (inB V 0 1000000 && inB x 0 100000) = true := by rw [inB_iff.2 ⟨f1, f2⟩, vx]; rfl
      rw [v1, h2] at h1
      exact h1
    have HS2 : Hid (∃ LS C : Int, (C = 0 → y < LS) ∧ ∀ W', Calls Tryz.prog 7 #[.agg #[.string s, .int .i64 r, .int .i64 l, .int .i64 cc], .int .i64 (V + 1), .int .i64 x] W' fun e w' => e = .returned (.tuple #[.int .i64 LS, .int .i64 C]) ∧ Below W'.heap.size W' w') := by
      refine ⟨_, _, ?_, fun W' => implRailWear_any s r l cc (V + 1) x hz W'⟩
      intro hc
      rw [v1, vx, Bool.and_true] at hc
      cases h4 : inB (V + 1) 0 1000000
      · rw [h4] at hc
        exact absurd hc (by decide)
      · rw [v1, vx]
        exact f4 (inB_iff.1 h4).2
    obtain ⟨LS, C, hLC, hcall⟩ := HS2.out
    have HS3 := Lib.hid hcall
    have HLC := Lib.hid hLC
    have g1 : ¬ V < 0 := Int.not_lt.2 f1
    have g2 : ¬ y < wearI r V x := Int.not_lt.2 f3
    clear hcall hLC HS2 v1 vx vy x0 y0 b0 b1 b2 b3 f3 f4 hV e2 hz hss
    generalize wearI r V x = S1 at *
    go_wp2_with fail
    generalize W1.alloc (.cells #[.string s, .int .i64 r, .int .i64 l, .int .i64 cc] 25) = W2 at *
    generalize W1.heap.size = g at *
    refine (HI.out _).mono ?_
    rintro e W3 ⟨rfl, hb3⟩
    have HB3 := Lib.hid (HB2.out.trans (hb3.mono HB2.out.size))
    have HR3 := Lib.hid (HR2.out.below hb3)
    clear hb3 q0 q1 q2 q3 HI
    go_upto_region 5 with fail
    rename_i K5 hK5 Kc hKc
    have HK := Lib.hid hK5
    clear hK5
    obtain ⟨a0, a1, a2, a3, _⟩ := BdrA.row4 HR3.out
    go_wp2_with fail
    refine (HS1.out _).mono ?_
    rintro e W4 ⟨rfl, hb4⟩
    have HB4 := Lib.hid (HB3.out.trans (hb4.mono HB3.out.size))
    have HR4 := Lib.hid (HR3.out.below hb4)
    clear hb4 a0 a1 a2 a3
    obtain ⟨a0, a1, a2, a3, _⟩ := BdrA.row4 HR4.out
    go_wp2_with fail
    refine (HS3.out _).mono ?_
    rintro e W5 ⟨rfl, hb5⟩
    have HB5 := Lib.hid (HB4.out.trans (hb5.mono HB4.out.size))
    clear hb5 a0 a1 a2 a3
    by_cases hC : C = 0
    · have hlw := HLC.out hC
      have hlw2 : ¬ LS ≤ y := by omega
      subst hC
      go_wp2_with fail
      refine HK.out _ _ ?_
      exact HR.out _ _ _ _ _ _ _ _ _ _ _ _ _ _ _ _ _ _ _ _ _ _ _ _ _ _ _ _ _ _ _ _ _ _ _ _ _ _ _ _ _ _ _ _ _ _ _ _ _ _ _ _ _ _ _ _ _ _ _ _ _ _ _ _ _ _ _ _ _ _ _ _ _ _ _ _ _ _ _ _ _ _ _ _ _ _ _ _ _ _ _ _ _ _ _ _ _ _ _ _ _ _ _ _ _ _ _ _ _ _ _ _ _ _ _ _ _ _ _ _ _ _ _ _ _ _ _ _ _ _ _ _ _ _ _ _ _ _ _ _ _ _ _ _ _ _ _ _ _ _ _ _ _ _ _ _ _ _ _ _ _ _ _ _ _ _ _ _ _ _ _ _ _ _ _ _ _ _ _ _ _ _ _ _ _ _ _ _ _ _ _ _ _ _ _ _ _ _ _ _ _ _ _ _ _ _ _ _ _ _ _ _ _ _ _ _ _ _ _ _ _ _ _ _ _ _ _ _ _ _ _ _ _ _ _ _ _ _ _ _ _ _ _ _ _ _ _ _ _ _ _ _ _ _ _ _ _ _ _ _ _ _ _ _ HB5
    · have hC2 : (C == 0) = false := by rw [beq_eq_false_iff_ne]; exact hC
      clear hC
      go_wp2_with fail
      refine HK.out _ _ ?_
      exact HR.out _ _ _ _ _ _ _ _ _ _ _ _ _ _ _ _ _ _ _ _ _ _ _ _ _ _ _ _ _ _ _ _ _ _ _ _ _ _ _ _ _ _ _ _ _ _ _ _ _ _ _ _ _ _ _ _ _ _ _ _ _ _ _ _ _ _ _ _ _ _ _ _ _ _ _ _ _ _ _ _ _ _ _ _ _ _ _ _ _ _ _ _ _ _ _ _ _ _ _ _ _ _ _ _ _ _ _ _ _ _ _ _ _ _ _ _ _ _ _ _ _ _ _ _ _ _ _ _ _ _ _ _ _ _ _ _ _ _ _ _ _ _ _ _ _ _ _ _ _ _ _ _ _ _ _ _ _ _ _ _ _ _ _ _ _ _ _ _ _ _ _ _ _ _ _ _ _ _ _ _ _ _ _ _ _ _ _ _ _ _ _ _ _ _ _ _ _ _ _ _ _ _ _ _ _ _ _ _ _ _ _ _ _ _ _ _ _ _ _ _ _ _ _ _ _ _ _ _ _ _ _ _ _ _ _ _ _ _ _ _ _ _ _ _ _ _ _ _ _ _ _ _ _ _ _ _ _ _ _ _ _ _ _ _ HB5
  · have hok2 : (codC (bendB s r l cc) (inB x 0 100000 && inB y 0 1000000) == 0) = false := by
      rw [beq_eq_false_iff_ne]
      cases h1 : bendB s r l cc
      · simp [codC]
      · cases h2 : (inB x 0 100000 && inB y 0 1000000)
        · simp [codC]
        · exact absurd ⟨h1, h2⟩ hok
    clear hok
    generalize codC (bendB s r l cc) (inB x 0 100000 && inB y 0 1000000) = C at *
    generalize vB (bendB s r l cc && (inB x 0 100000 && inB y 0 1000000)) (rgT r x y - 1) = V at *
    go_wp2_with fail
    generalize W1.alloc (.cells #[.string s, .int .i64 r, .int .i64 l, .int .i64 cc] 25) = W2 at *
    refine (HI.out _).mono ?_
    rintro e W3 ⟨rfl, hb3⟩
    have HB3 := Lib.hid (HB2.out.trans (hb3.mono HB2.out.size))
    clear hb3 HI q0 q1 q2 q3
    go_upto_region 5 with fail
    rename_i K5 hK5 Kc hKc
    have HK := Lib.hid hK5
    clear hK5
    go_wp2_with fail
    refine HK.out _ _ ?_
    exact HR.out _ _ _ _ _ _ _ _ _ _ _ _ _ _ _ _ _ _ _ _ _ _ _ _ _ _ _ _ _ _ _ _ _ _ _ _ _ _ _ _ _ _ _ _ _ _ _ _ _ _ _ _ _ _ _ _ _ _ _ _ _ _ _ _ _ _ _ _ _ _ _ _ _ _ _ _ _ _ _ _ _ _ _ _ _ _ _ _ _ _ _ _ _ _ _ _ _ _ _ _ _ _ _ _ _ _ _ _ _ _ _ _ _ _ _ _ _ _ _ _ _ _ _ _ _ _ _ _ _ _ _ _ _ _ _ _ _ _ _ _ _ _ _ _ _ _ _ _ _ _ _ _ _ _ _ _ _ _ _ _ _ _ _ _ _ _ _ _ _ _ _ _ _ _ _ _ _ _ _ _ _ _ _ _ _ _ _ _ _ _ _ _ _ _ _ _ _ _ _ _ _ _ _ _ _ _ _ _ _ _ _ _ _ _ _ _ _ _ _ _ _ _ _ _ _ _ _ _ _ _ _ _ _ _ _ _ _ _ _ _ _ _ _ _ _ _ _ _ _ _ _ _ _ _ _ _ _ _ _ _ _ _ _ _ HB3
end Go.Proofs.YtlknncmnphbpkaaGreatDoor.GrdC
