/- The walks of distances, of both cars in the loop, of the least distance and of safe tracks, program and reference. -/
import Derived.Test.YtiibpchbjaklcaaTrkK
namespace Go.Proofs.Ytiibpchbjaklcaa.TrkL
open Go.RowKit Go.Proofs.Ytiibpchbjaklcaa.Plain Go.Proofs.Ytiibpchbjaklcaa.TrkP Go.Proofs.Ytiibpchbjaklcaa.WalkA Go.Proofs.Ytiibpchbjaklcaa.TrkA Go.Proofs.Ytiibpchbjaklcaa.TrkB Go.Proofs.Ytiibpchbjaklcaa.TrkC Go.Proofs.Ytiibpchbjaklcaa.TrkD Go.Proofs.Ytiibpchbjaklcaa.TrkE Go.Proofs.Ytiibpchbjaklcaa.TrkF Go.Proofs.Ytiibpchbjaklcaa.TrkG Go.Proofs.Ytiibpchbjaklcaa.TrkH Go.Proofs.Ytiibpchbjaklcaa.TrkI Go.Proofs.Ytiibpchbjaklcaa.TrkJ Go.Proofs.Ytiibpchbjaklcaa.TrkK

theorem implCarsApart_any (A : Option Addr) (n c : Nat) (lf lu : Int) (l : List (Int × Int)) (x : Int) (w : World) (hs : Secs w w.heap.size A n l) (hn : n ≤ 1048576) :
    Calls Try.prog 10 #[.agg #[.slice A n c, .int .i64 lf, .int .i64 lu], .int .i64 x] w fun e w' => e = .returned (.tuple #[.int .i64 (vI (onB l lf lu x) (absI (lenAll l - 2 * x))), .int .i64 (onI l lf lu x)]) ∧ Below w.heap.size w w' := by
  obtain ⟨q0, q1, q2, q3, q4⟩ := boxed w 26 (.slice A n c) (.int .i64 lf) (.int .i64 lu)
  have HV := Lib.hid (onTrack_any A n c lf lu l x _ (hs.below q3 q3.size) hn)
  have HB := Lib.hid q3
  have HZ := Lib.hid q4
  have HC := Lib.hid (And.intro q0 (And.intro q1 q2))
  have HS := Lib.hid hs
  clear q0 q1 q2 q3 q4 hs
  cases hv : trackB l lf lu
  · have e1 := onI_bad (x := x) hv
    have e2 : onB l lf lu x = false := by simp [onB, hv]
    rw [e1] at HV ⊢
    rw [e2]
    clear e1 e2 hv
    go_enter Try.func10, Try.ntmps10
    go_wp2_with (go_at_call 25; refine HV.out.mono ?_; rintro e w1 ⟨rfl, hb⟩)
    go_ret2
    exact ⟨rfl, HB.out.trans (hb.mono (by have := HZ.out; omega))⟩
  cases hx : inB x 0 (lenAll l)
  · have e1 := onI_out hv hx
    have e2 : onB l lf lu x = false := by simp [onB, hx]
    rw [e1] at HV ⊢
    rw [e2]
    clear e1 e2 hv hx
    go_enter Try.func10, Try.ntmps10
    go_wp2_with (go_at_call 25; refine HV.out.mono ?_; rintro e w1 ⟨rfl, hb⟩)
    go_ret2
    exact ⟨rfl, HB.out.trans (hb.mono (by have := HZ.out; omega))⟩
  · have e1 := onI_in hv hx
    have e2 : onB l lf lu x = true := by simp [onB, hv, hx]
    rw [e1] at HV ⊢
    rw [e2]
    have hval := trackB_iff.1 hv
    have hg := hval.good
    obtain ⟨x1, x2⟩ := inB_iff.1 hx
    have hlen := hval.len
    have hlen0 := (lenAll_bds hg).1
    clear e1 e2 hx hv
    go_enter Try.func10, Try.ntmps10
    go_wp2_with fail
    generalize w.alloc (.cells #[.slice A n c, .int .i64 lf, .int .i64 lu] 26) = W0 at *
    refine HV.out.mono ?_
    rintro e w1 ⟨rfl, hb⟩
    obtain ⟨q0, q1, q2⟩ := HC.out
    have hz : w.heap.size < W0.heap.size := by have := HZ.out; omega
    have r0 := (hb.cell (p := ⟨w.heap.size, 0, none⟩) hz).trans q0
    have r1 := (hb.cell (p := ⟨w.heap.size, 1, none⟩) hz).trans q1
    have r2 := (hb.cell (p := ⟨w.heap.size, 2, none⟩) hz).trans q2
    have B1 : Hid (Below w.heap.size w w1) := HB.out.trans (hb.mono (by omega))
    have HL := Lib.hid (apart_any A n c lf lu l x w1 (HS.out.below B1.out B1.out.size) hg ⟨x1, by omega⟩)
    clear q0 q1 q2 hz hb
    go_wp2_with (go_at_call 27; refine HL.out.mono ?_; rintro e w2 ⟨rfl, hb2⟩)
    go_ret2
    exact ⟨rfl, B1.out.trans (hb2.mono B1.out.size)⟩
theorem both_same {l : List (Int × Int)} {lf lu x : Int} : (inB x lf lu && inB (lenAll l - x) lf lu) = inB x (lowL l lf lu) (highL l lf lu) := by
  apply Bool.eq_iff_iff.2
  rw [Bool.and_eq_true, inB_iff, inB_iff, inB_iff]
  unfold lowL highL maxI minI
  constructor
  · rintro ⟨h1, h2⟩
    constructor
    · split <;> omega
    · split <;> omega
  · rintro ⟨h1, h2⟩
    constructor
    · constructor
      · split at h1 <;> omega
      · split at h2 <;> omega
    · constructor
      · split at h2 <;> omega
      · split at h1 <;> omega
/-- The loop's two places lie as far from the ends. -/
theorem low_high {l : List (Int × Int)} {lf lu : Int} (hv : Valid l lf lu) : lowL l lf lu + highL l lf lu = lenAll l ∧ 0 ≤ lowL l lf lu ∧ lowL l lf lu ≤ 3000000 ∧ 0 ≤ highL l lf lu ∧ highL l lf lu ≤ 3000000 := by
  have h1 := hv.from_
  have h2 := hv.until_
  have h3 := hv.len
  unfold lowL highL maxI minI
  split <;> split <;> omega

theorem bothInLoop_any (A : Option Addr) (n c : Nat) (lf lu : Int) (l : List (Int × Int)) (x : Int) (w : World) (hs : Secs w w.heap.size A n l) (hv : Valid l lf lu) (hx : 0 ≤ x ∧ x ≤ lenAll l) :
    Calls Try.prog 33 #[.agg #[.slice A n c, .int .i64 lf, .int .i64 lu], .int .i64 x] w fun e w' => e = .returned (.bool (inB x (lowL l lf lu) (highL l lf lu))) ∧ Below w.heap.size w w' := by
  rw [← both_same]
  obtain ⟨q0, q1, q2, q3, q4⟩ := boxed w 26 (.slice A n c) (.int .i64 lf) (.int .i64 lu)
  have HB := Lib.hid q3
  have hp : w.heap.size < (w.alloc (.cells #[.slice A n c, .int .i64 lf, .int .i64 lu] 26)).heap.size := by omega
  clear q3 q4
  have HL := Lib.hid (fun (W : World) (hW : Below w.heap.size w W) => implLength_any A n c lf lu l W (hs.below hW hW.size) hv.good)
  obtain ⟨x1, x2⟩ := hx
  have hlen := hv.len
  clear hs hv
  generalize lenAll l = N at *
  cases t1 : inB x lf lu
  · rw [Bool.false_and]
    go_enter Try.func33, Try.ntmps33
    go_wp2_with fail
    generalize w.alloc (.cells #[.slice A n c, .int .i64 lf, .int .i64 lu] 26) = W0 at *
    have HB2 : Hid (∀ W, Below W0.heap.size W0 W → Below w.heap.size w W) := fun W hW => HB.out.trans (hW.mono (by omega))
    have b := Below.refl W0.heap.size W0
    refine (HL.out _ (HB2.out _ b)).mono ?_
    rintro e w1 ⟨rfl, hb⟩
    have z := keep3 hp q0 q1 q2 b hb
    clear q0 q1 q2 b hb
    obtain ⟨q0, q1, q2, b⟩ := z
    go_wp2_with fail
    refine (within_any _ _ _ _).mono ?_
    rintro e w2 ⟨rfl, rfl⟩
    go_wp2_with fail
    go_ret
    exact ⟨rfl, HB2.out _ b⟩
  · rw [Bool.true_and]
    go_enter Try.func33, Try.ntmps33
    go_wp2_with fail
    generalize w.alloc (.cells #[.slice A n c, .int .i64 lf, .int .i64 lu] 26) = W0 at *
    have HB2 : Hid (∀ W, Below W0.heap.size W0 W → Below w.heap.size w W) := fun W hW => HB.out.trans (hW.mono (by omega))
    have b := Below.refl W0.heap.size W0
    refine (HL.out _ (HB2.out _ b)).mono ?_
    rintro e w1 ⟨rfl, hb⟩
    have z := keep3 hp q0 q1 q2 b hb
    clear q0 q1 q2 b hb
    obtain ⟨q0, q1, q2, b⟩ := z
    go_wp2_with fail
    refine (within_any _ _ _ _).mono ?_
    rintro e w2 ⟨rfl, rfl⟩
    go_wp2_with fail
    refine (within_any _ _ _ _).mono ?_
    rintro e w3 ⟨rfl, rfl⟩
    go_wp2_with fail
    go_ret
    exact ⟨rfl, HB2.out _ b⟩

theorem implBothInLoop_any (A : Option Addr) (n c : Nat) (lf lu : Int) (l : List (Int × Int)) (x : Int) (w : World) (hs : Secs w w.heap.size A n l) (hn : n ≤ 1048576) :
    Calls Try.prog 16 #[.agg #[.slice A n c, .int .i64 lf, .int .i64 lu], .int .i64 x] w fun e w' => e = .returned (.bool (onB l lf lu x && inB x (lowL l lf lu) (highL l lf lu))) ∧ Below w.heap.size w w' := by
  obtain ⟨q0, q1, q2, q3, q4⟩ := boxed w 26 (.slice A n c) (.int .i64 lf) (.int .i64 lu)
  have HB := Lib.hid q3
  have hp : w.heap.size < (w.alloc (.cells #[.slice A n c, .int .i64 lf, .int .i64 lu] 26)).heap.size := by omega
  clear q3 q4
  have HV := Lib.hid (fun (W : World) (hW : Below w.heap.size w W) => onTrack_any A n c lf lu l x W (hs.below hW hW.size) hn)
  cases hv : trackB l lf lu
  · have e1 := onI_bad (x := x) hv
    have e2 : onB l lf lu x = false := by simp [onB, hv]
    rw [e1] at HV
    rw [e2, Bool.false_and]
    clear e1 e2
    go_enter Try.func16, Try.ntmps16
    go_wp2_with fail
    generalize w.alloc (.cells #[.slice A n c, .int .i64 lf, .int .i64 lu] 26) = W0 at *
    have HB2 : Hid (∀ W, Below W0.heap.size W0 W → Below w.heap.size w W) := fun W hW => HB.out.trans (hW.mono (by omega))
    have b := Below.refl W0.heap.size W0
    refine (HV.out _ (HB2.out _ b)).mono ?_
    rintro e w1 ⟨rfl, hb⟩
    have z := keep3 hp q0 q1 q2 b hb
    clear q0 q1 q2 b hb
    obtain ⟨q0, q1, q2, b⟩ := z
    go_wp2_with fail
    go_ret
    exact ⟨rfl, HB2.out _ b⟩
  cases hx : inB x 0 (lenAll l)
  · have e1 := onI_out hv hx
    have e2 : onB l lf lu x = false := by simp [onB, hx]
    rw [e1] at HV
    rw [e2, Bool.false_and]
    clear e1 e2
    go_enter Try.func16, Try.ntmps16
    go_wp2_with fail
    generalize w.alloc (.cells #[.slice A n c, .int .i64 lf, .int .i64 lu] 26) = W0 at *
    have HB2 : Hid (∀ W, Below W0.heap.size W0 W → Below w.heap.size w W) := fun W hW => HB.out.trans (hW.mono (by omega))
    have b := Below.refl W0.heap.size W0
    refine (HV.out _ (HB2.out _ b)).mono ?_
    rintro e w1 ⟨rfl, hb⟩
    have z := keep3 hp q0 q1 q2 b hb
    clear q0 q1 q2 b hb
    obtain ⟨q0, q1, q2, b⟩ := z
    go_wp2_with fail
    go_ret
    exact ⟨rfl, HB2.out _ b⟩
  have e1 := onI_in hv hx
  have e2 : onB l lf lu x = true := by simp [onB, hv, hx]
  rw [e1] at HV
  rw [e2, Bool.true_and]
  have HC := Lib.hid (fun (W : World) (hW : Below w.heap.size w W) => bothInLoop_any A n c lf lu l x W (hs.below hW hW.size) (trackB_iff.1 hv) (inB_iff.1 hx))
  clear e1 e2 hs
  go_enter Try.func16, Try.ntmps16
  go_wp2_with fail
  generalize w.alloc (.cells #[.slice A n c, .int .i64 lf, .int .i64 lu] 26) = W0 at *
  have HB2 : Hid (∀ W, Below W0.heap.size W0 W → Below w.heap.size w W) := fun W hW => HB.out.trans (hW.mono (by omega))
  have b := Below.refl W0.heap.size W0
  refine (HV.out _ (HB2.out _ b)).mono ?_
  rintro e w1 ⟨rfl, hb⟩
  have z := keep3 hp q0 q1 q2 b hb
  clear q0 q1 q2 b hb
  obtain ⟨q0, q1, q2, b⟩ := z
  go_wp2_with fail
  refine (HC.out _ (HB2.out _ b)).mono ?_
  rintro e w2 ⟨rfl, hb⟩
  have z := keep3 hp q0 q1 q2 b hb
  clear q0 q1 q2 b hb
  obtain ⟨q0, q1, q2, b⟩ := z
  go_wp2_with fail
  go_ret
  exact ⟨rfl, HB2.out _ b⟩

/-- The code of LoopPlaces. -/
def loopC (l : List (Int × Int)) (lf lu : Int) : Int := if trackB l lf lu = true then (if lowL l lf lu ≤ highL l lf lu then 0 else 3) else 1
def loopOk (l : List (Int × Int)) (lf lu : Int) : Bool := decide (loopC l lf lu = 0)
theorem loop_bad {l : List (Int × Int)} {lf lu : Int} (h : trackB l lf lu = false) : loopC l lf lu = 1 ∧ loopOk l lf lu = false := by simp [loopOk, loopC, h]
theorem loop_none {l : List (Int × Int)} {lf lu : Int} (h : trackB l lf lu = true) (k : ¬ lowL l lf lu ≤ highL l lf lu) : loopC l lf lu = 3 ∧ loopOk l lf lu = false := by simp [loopOk, loopC, h, k]
theorem loop_ok {l : List (Int × Int)} {lf lu : Int} (h : trackB l lf lu = true) (k : lowL l lf lu ≤ highL l lf lu) : loopC l lf lu = 0 ∧ loopOk l lf lu = true := by simp [loopOk, loopC, h, k]
theorem vI_no (v : Int) : vI false v = 0 := rfl
theorem vI_yes (v : Int) : vI true v = v := rfl

theorem implLoopPlaces_any (A : Option Addr) (n c : Nat) (lf lu : Int) (l : List (Int × Int)) (w : World) (hs : Secs w w.heap.size A n l) (hn : n ≤ 1048576) :
    Calls Try.prog 14 #[.agg #[.slice A n c, .int .i64 lf, .int .i64 lu]] w fun e w' => e = .returned (.tuple #[.int .i64 (vI (loopOk l lf lu) (lowL l lf lu)), .int .i64 (vI (loopOk l lf lu) (highL l lf lu)), .int .i64 (loopC l lf lu)]) ∧ Below w.heap.size w w' := by
  obtain ⟨q0, q1, q2, q3, q4⟩ := boxed w 26 (.slice A n c) (.int .i64 lf) (.int .i64 lu)
  have HB := Lib.hid q3
  have hp : w.heap.size < (w.alloc (.cells #[.slice A n c, .int .i64 lf, .int .i64 lu] 26)).heap.size := by omega
  clear q3 q4
  have HV := Lib.hid (fun (W : World) (hW : Below w.heap.size w W) => implValidTrack_any A n c lf lu l W (hs.below hW hW.size) hn)
  cases hv : trackB l lf lu
  · obtain ⟨e1, e2⟩ := loop_bad hv
    rw [hv] at HV
    rw [e1, e2, vI_no, vI_no]
    clear e1 e2 hs
    go_enter Try.func14, Try.ntmps14
    go_wp2_with fail
    generalize w.alloc (.cells #[.slice A n c, .int .i64 lf, .int .i64 lu] 26) = W0 at *
    have HB2 : Hid (∀ W, Below W0.heap.size W0 W → Below w.heap.size w W) := fun W hW => HB.out.trans (hW.mono (by omega))
    have b := Below.refl W0.heap.size W0
    refine (HV.out _ (HB2.out _ b)).mono ?_
    rintro e w1 ⟨rfl, hb⟩
    have z := keep3 hp q0 q1 q2 b hb
    clear q0 q1 q2 b hb
    obtain ⟨q0, q1, q2, b⟩ := z
    go_wp2_with fail
    go_ret3
    exact ⟨rfl, HB2.out _ b⟩
  rw [hv] at HV
  have HP := Lib.hid (fun (W : World) (hW : Below w.heap.size w W) => loopPlaces_any A n c lf lu l W (hs.below hW hW.size) (trackB_iff.1 hv))
  by_cases hk : lowL l lf lu ≤ highL l lf lu
  · obtain ⟨e1, e2⟩ := loop_ok hv hk
    rw [e1, e2, vI_yes, vI_yes]
    rw [decide_eq_true hk] at HP
    clear e1 e2 hs
    go_enter Try.func14, Try.ntmps14
    go_wp2_with fail
    generalize w.alloc (.cells #[.slice A n c, .int .i64 lf, .int .i64 lu] 26) = W0 at *
    have HB2 : Hid (∀ W, Below W0.heap.size W0 W → Below w.heap.size w W) := fun W hW => HB.out.trans (hW.mono (by omega))
    have b := Below.refl W0.heap.size W0
    refine (HV.out _ (HB2.out _ b)).mono ?_
    rintro e w1 ⟨rfl, hb⟩
    have z := keep3 hp q0 q1 q2 b hb
    clear q0 q1 q2 b hb
    obtain ⟨q0, q1, q2, b⟩ := z
    go_wp2_with fail
    refine (HP.out _ (HB2.out _ b)).mono ?_
    rintro e w2 ⟨rfl, hb⟩
    have z := keep3 hp q0 q1 q2 b hb
    clear q0 q1 q2 b hb
    obtain ⟨q0, q1, q2, b⟩ := z
    go_wp2_with fail
    go_ret3
    exact ⟨rfl, HB2.out _ b⟩
  · obtain ⟨e1, e2⟩ := loop_none hv hk
    rw [e1, e2, vI_no, vI_no]
    rw [decide_eq_false hk] at HP
    clear e1 e2 hs
    go_enter Try.func14, Try.ntmps14
    go_wp2_with fail
    generalize w.alloc (.cells #[.slice A n c, .int .i64 lf, .int .i64 lu] 26) = W0 at *
    have HB2 : Hid (∀ W, Below W0.heap.size W0 W → Below w.heap.size w W) := fun W hW => HB.out.trans (hW.mono (by omega))
    have b := Below.refl W0.heap.size W0
    refine (HV.out _ (HB2.out _ b)).mono ?_
    rintro e w1 ⟨rfl, hb⟩
    have z := keep3 hp q0 q1 q2 b hb
    clear q0 q1 q2 b hb
    obtain ⟨q0, q1, q2, b⟩ := z
    go_wp2_with fail
    refine (HP.out _ (HB2.out _ b)).mono ?_
    rintro e w2 ⟨rfl, hb⟩
    have z := keep3 hp q0 q1 q2 b hb
    clear q0 q1 q2 b hb
    obtain ⟨q0, q1, q2, b⟩ := z
    go_wp2_with fail
    go_ret3
    exact ⟨rfl, HB2.out _ b⟩

end Go.Proofs.Ytiibpchbjaklcaa.TrkL
