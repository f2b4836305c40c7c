/- The walks of the least distance, of safe tracks, of the height between the cars and of the place of equal heights, program and reference. -/
import Derived.Test.YtiibpchbjaklcaaTrkL
namespace Go.Proofs.Ytiibpchbjaklcaa.TrkM
open Go.RowKit Go.Proofs.Ytiibpchbjaklcaa.Plain Go.Proofs.Ytiibpchbjaklcaa.TrkP Go.Proofs.Ytiibpchbjaklcaa.WalkA Go.Proofs.Ytiibpchbjaklcaa.TrkA Go.Proofs.Ytiibpchbjaklcaa.TrkB Go.Proofs.Ytiibpchbjaklcaa.TrkC Go.Proofs.Ytiibpchbjaklcaa.TrkD Go.Proofs.Ytiibpchbjaklcaa.TrkE Go.Proofs.Ytiibpchbjaklcaa.TrkF Go.Proofs.Ytiibpchbjaklcaa.TrkG Go.Proofs.Ytiibpchbjaklcaa.TrkH Go.Proofs.Ytiibpchbjaklcaa.TrkI Go.Proofs.Ytiibpchbjaklcaa.TrkJ Go.Proofs.Ytiibpchbjaklcaa.TrkK Go.Proofs.Ytiibpchbjaklcaa.TrkL Go.Proofs.Ytiibpchbjaklcaa.Least


/-- The least distance outside of the loop; -1 if there is no such place. -/
def leastV (l : List (Int × Int)) (lf lu : Int) : Int := if lowL l lf lu ≤ highL l lf lu then (if lowL l lf lu = 0 then -1 else lenAll l - 2 * (lowL l lf lu - 1)) else lenAll l % 2
theorem leastV_a {l : List (Int × Int)} {lf lu : Int} (h : ¬ lowL l lf lu ≤ highL l lf lu) : leastV l lf lu = lenAll l % 2 := if_neg h
theorem leastV_b {l : List (Int × Int)} {lf lu : Int} (h : lowL l lf lu ≤ highL l lf lu) (k : lowL l lf lu = 0) : leastV l lf lu = -1 := by unfold leastV; rw [if_pos h, if_pos k]
theorem leastV_c {l : List (Int × Int)} {lf lu : Int} (h : lowL l lf lu ≤ highL l lf lu) (k : ¬ lowL l lf lu = 0) : leastV l lf lu = lenAll l - 2 * (lowL l lf lu - 1) := by unfold leastV; rw [if_pos h, if_neg k]
theorem leastV_bd {l : List (Int × Int)} {lf lu : Int} (hv : Valid l lf lu) : -1 ≤ leastV l lf lu ∧ leastV l lf lu ≤ 3000002 := by
  have h := low_high hv
  have h3 := hv.len
  have h4 := lenAll_bds hv.good
  unfold leastV
  split
  · split <;> omega
  · omega
theorem least_a {l : List (Int × Int)} {lf lu : Int} (h : ¬ lowL l lf lu ≤ highL l lf lu) : vI (decide (0 ≤ leastV l lf lu)) (leastV l lf lu) = lenAll l % 2 ∧ decide (0 ≤ leastV l lf lu) = true := by
  rw [leastV_a h]
  have e : decide (0 ≤ lenAll l % 2) = true := decide_eq_true (Int.emod_nonneg _ (by decide))
  rw [e]
  exact ⟨rfl, rfl⟩
theorem least_b {l : List (Int × Int)} {lf lu : Int} (h : lowL l lf lu ≤ highL l lf lu) (k : lowL l lf lu = 0) : vI (decide (0 ≤ leastV l lf lu)) (leastV l lf lu) = 0 ∧ decide (0 ≤ leastV l lf lu) = false := by
  rw [leastV_b h k]
  exact ⟨rfl, rfl⟩
theorem least_c {l : List (Int × Int)} {lf lu : Int} (hv : Valid l lf lu) (h : lowL l lf lu ≤ highL l lf lu) (k : ¬ lowL l lf lu = 0) : vI (decide (0 ≤ leastV l lf lu)) (leastV l lf lu) = absI (lenAll l - 2 * (lowL l lf lu - 1)) ∧ decide (0 ≤ leastV l lf lu) = true := by
  have hb := low_high hv
  rw [leastV_c h k]
  have e : decide (0 ≤ lenAll l - 2 * (lowL l lf lu - 1)) = true := decide_eq_true (by omega)
  rw [e]
  exact ⟨by rw [vI_yes]; unfold absI; rw [if_neg (by omega)], rfl⟩

theorem leastApart_any (A : Option Addr) (n c : Nat) (lf lu : Int) (l : List (Int × Int)) (w : World) (hs : Secs w w.heap.size A n l) (hv : Valid l lf lu) :
    Calls Try.prog 32 #[.agg #[.slice A n c, .int .i64 lf, .int .i64 lu]] w fun e w' => e = .returned (.tuple #[.int .i64 (vI (decide (0 ≤ leastV l lf lu)) (leastV l lf lu)), .bool (decide (0 ≤ leastV l lf lu))]) ∧ Below w.heap.size w w' := by
  obtain ⟨q0, q1, q2, q3, q4⟩ := boxed w 26 (.slice A n c) (.int .i64 lf) (.int .i64 lu)
  have HB := Lib.hid q3
  have hp : w.heap.size < (w.alloc (.cells #[.slice A n c, .int .i64 lf, .int .i64 lu] 26)).heap.size := by omega
  clear q3 q4
  have HP := Lib.hid (fun (W : World) (hW : Below w.heap.size w W) => loopPlaces_any A n c lf lu l W (hs.below hW hW.size) hv)
  have HL := Lib.hid (fun (W : World) (hW : Below w.heap.size w W) => implLength_any A n c lf lu l W (hs.below hW hW.size) hv.good)
  obtain ⟨c1, c2, c3, c4, c5⟩ := low_high hv
  have hlen := hv.len
  have hl0 := (lenAll_bds hv.good).1
  have HQ := Lib.hid (fun (W : World) (hW : Below w.heap.size w W) => apart_any A n c lf lu l (lowL l lf lu - 1) W (hs.below hW hW.size) hv.good)
  by_cases hk : lowL l lf lu ≤ highL l lf lu
  · rw [decide_eq_true hk] at HP
    by_cases h0 : lowL l lf lu = 0
    · obtain ⟨e1, e2⟩ := least_b hk h0
      rw [e1, e2]
      clear e1 e2 hs hv
      generalize lowL l lf lu = a at *
      go_enter Try.func32, Try.ntmps32
      go_wp2_with fail
      generalize w.alloc (.cells #[.slice A n c, .int .i64 lf, .int .i64 lu] 26) = W0 at *
      have HB2 : Hid (∀ W, Below W0.heap.size W0 W → Below w.heap.size w W) := fun W hW => HB.out.trans (hW.mono (by omega))
      have b := Below.refl W0.heap.size W0
      refine (HP.out _ (HB2.out _ b)).mono ?_
      rintro e w1 ⟨rfl, hb⟩
      have z := keep3 hp q0 q1 q2 b hb
      clear q0 q1 q2 b hb
      obtain ⟨q0, q1, q2, b⟩ := z
      go_wp2_with fail
      go_ret2
      exact ⟨rfl, HB2.out _ b⟩
    · obtain ⟨e1, e2⟩ := least_c hv hk h0
      rw [e1, e2]
      clear e1 e2 hs hv
      generalize lowL l lf lu = a at *
      go_enter Try.func32, Try.ntmps32
      go_wp2_with fail
      generalize w.alloc (.cells #[.slice A n c, .int .i64 lf, .int .i64 lu] 26) = W0 at *
      have HB2 : Hid (∀ W, Below W0.heap.size W0 W → Below w.heap.size w W) := fun W hW => HB.out.trans (hW.mono (by omega))
      have b := Below.refl W0.heap.size W0
      refine (HP.out _ (HB2.out _ b)).mono ?_
      rintro e w1 ⟨rfl, hb⟩
      have z := keep3 hp q0 q1 q2 b hb
      clear q0 q1 q2 b hb
      obtain ⟨q0, q1, q2, b⟩ := z
      go_wp2_with fail
      refine (HQ.out _ (HB2.out _ b) ⟨by omega, by omega⟩).mono ?_
      rintro e w2 ⟨rfl, hb⟩
      have z := keep3 hp q0 q1 q2 b hb
      clear q0 q1 q2 b hb
      obtain ⟨q0, q1, q2, b⟩ := z
      go_wp2_with fail
      go_ret2
      exact ⟨rfl, HB2.out _ b⟩
  · obtain ⟨e1, e2⟩ := least_a hk
    rw [decide_eq_false hk] at HP
    rw [e1, e2]
    clear e1 e2 hs hv
    generalize lenAll l = N at *
    go_enter Try.func32, Try.ntmps32
    go_wp2_with fail
    generalize w.alloc (.cells #[.slice A n c, .int .i64 lf, .int .i64 lu] 26) = W0 at *
    have HB2 : Hid (∀ W, Below W0.heap.size W0 W → Below w.heap.size w W) := fun W hW => HB.out.trans (hW.mono (by omega))
    have b := Below.refl W0.heap.size W0
    refine (HP.out _ (HB2.out _ b)).mono ?_
    rintro e w1 ⟨rfl, hb⟩
    have z := keep3 hp q0 q1 q2 b hb
    clear q0 q1 q2 b hb
    obtain ⟨q0, q1, q2, b⟩ := z
    go_wp2_with fail
    refine (HL.out _ (HB2.out _ b)).mono ?_
    rintro e w2 ⟨rfl, hb⟩
    have z := keep3 hp q0 q1 q2 b hb
    clear q0 q1 q2 b hb
    obtain ⟨q0, q1, q2, b⟩ := z
    go_wp2_with fail
    go_ret2
    exact ⟨rfl, HB2.out _ b⟩

def lstC (l : List (Int × Int)) (lf lu : Int) : Int := if trackB l lf lu = true then (if 0 ≤ leastV l lf lu then 0 else 3) else 1
def lstOk (l : List (Int × Int)) (lf lu : Int) : Bool := decide (lstC l lf lu = 0)
theorem lst_bad {l : List (Int × Int)} {lf lu : Int} (h : trackB l lf lu = false) : lstC l lf lu = 1 ∧ lstOk l lf lu = false := by simp [lstOk, lstC, h]
theorem lst_none {l : List (Int × Int)} {lf lu : Int} (h : trackB l lf lu = true) (k : ¬ 0 ≤ leastV l lf lu) : lstC l lf lu = 3 ∧ lstOk l lf lu = false := by simp [lstOk, lstC, h, k]
theorem lst_ok {l : List (Int × Int)} {lf lu : Int} (h : trackB l lf lu = true) (k : 0 ≤ leastV l lf lu) : lstC l lf lu = 0 ∧ lstOk l lf lu = true := by simp [lstOk, lstC, h, k]

theorem implLeastApart_any (A : Option Addr) (n c : Nat) (lf lu : Int) (l : List (Int × Int)) (w : World) (hs : Secs w w.heap.size A n l) (hn : n ≤ 1048576) :
    Calls Try.prog 15 #[.agg #[.slice A n c, .int .i64 lf, .int .i64 lu]] w fun e w' => e = .returned (.tuple #[.int .i64 (vI (lstOk l lf lu) (leastV l lf lu)), .int .i64 (lstC l lf lu)]) ∧ Below w.heap.size w w' := by
  obtain ⟨q0, q1, q2, q3, q4⟩ := boxed w 26 (.slice A n c) (.int .i64 lf) (.int .i64 lu)
  have HB := Lib.hid q3
  have hp : w.heap.size < (w.alloc (.cells #[.slice A n c, .int .i64 lf, .int .i64 lu] 26)).heap.size := by omega
  clear q3 q4
  have HV := Lib.hid (fun (W : World) (hW : Below w.heap.size w W) => implValidTrack_any A n c lf lu l W (hs.below hW hW.size) hn)
  cases hv : trackB l lf lu
  · obtain ⟨e1, e2⟩ := lst_bad hv
    rw [hv] at HV
    rw [e1, e2, vI_no]
    clear e1 e2 hs
    go_enter Try.func15, Try.ntmps15
    go_wp2_with fail
    generalize w.alloc (.cells #[.slice A n c, .int .i64 lf, .int .i64 lu] 26) = W0 at *
    have HB2 : Hid (∀ W, Below W0.heap.size W0 W → Below w.heap.size w W) := fun W hW => HB.out.trans (hW.mono (by omega))
    have b := Below.refl W0.heap.size W0
    refine (HV.out _ (HB2.out _ b)).mono ?_
    rintro e w1 ⟨rfl, hb⟩
    have z := keep3 hp q0 q1 q2 b hb
    clear q0 q1 q2 b hb
    obtain ⟨q0, q1, q2, b⟩ := z
    go_wp2_with fail
    go_ret2
    exact ⟨rfl, HB2.out _ b⟩
  rw [hv] at HV
  have HP := Lib.hid (fun (W : World) (hW : Below w.heap.size w W) => leastApart_any A n c lf lu l W (hs.below hW hW.size) (trackB_iff.1 hv))
  by_cases hk : 0 ≤ leastV l lf lu
  · obtain ⟨e1, e2⟩ := lst_ok hv hk
    rw [e1, e2, vI_yes]
    rw [decide_eq_true hk, vI_yes] at HP
    clear e1 e2 hs
    go_enter Try.func15, Try.ntmps15
    go_wp2_with fail
    generalize w.alloc (.cells #[.slice A n c, .int .i64 lf, .int .i64 lu] 26) = W0 at *
    have HB2 : Hid (∀ W, Below W0.heap.size W0 W → Below w.heap.size w W) := fun W hW => HB.out.trans (hW.mono (by omega))
    have b := Below.refl W0.heap.size W0
    refine (HV.out _ (HB2.out _ b)).mono ?_
    rintro e w1 ⟨rfl, hb⟩
    have z := keep3 hp q0 q1 q2 b hb
    clear q0 q1 q2 b hb
    obtain ⟨q0, q1, q2, b⟩ := z
    go_wp2_with fail
    refine (HP.out _ (HB2.out _ b)).mono ?_
    rintro e w2 ⟨rfl, hb⟩
    have z := keep3 hp q0 q1 q2 b hb
    clear q0 q1 q2 b hb
    obtain ⟨q0, q1, q2, b⟩ := z
    go_wp2_with fail
    go_ret2
    exact ⟨rfl, HB2.out _ b⟩
  · obtain ⟨e1, e2⟩ := lst_none hv hk
    rw [e1, e2, vI_no]
    rw [decide_eq_false hk, vI_no] at HP
    clear e1 e2 hs
    go_enter Try.func15, Try.ntmps15
    go_wp2_with fail
    generalize w.alloc (.cells #[.slice A n c, .int .i64 lf, .int .i64 lu] 26) = W0 at *
    have HB2 : Hid (∀ W, Below W0.heap.size W0 W → Below w.heap.size w W) := fun W hW => HB.out.trans (hW.mono (by omega))
    have b := Below.refl W0.heap.size W0
    refine (HV.out _ (HB2.out _ b)).mono ?_
    rintro e w1 ⟨rfl, hb⟩
    have z := keep3 hp q0 q1 q2 b hb
    clear q0 q1 q2 b hb
    obtain ⟨q0, q1, q2, b⟩ := z
    go_wp2_with fail
    refine (HP.out _ (HB2.out _ b)).mono ?_
    rintro e w2 ⟨rfl, hb⟩
    have z := keep3 hp q0 q1 q2 b hb
    clear q0 q1 q2 b hb
    obtain ⟨q0, q1, q2, b⟩ := z
    go_wp2_with fail
    go_ret2
    exact ⟨rfl, HB2.out _ b⟩

/-- The cars meet only in the loop. -/
def safeB (l : List (Int × Int)) (lf lu x : Int) : Bool := decide (lowL l lf lu ≤ highL l lf lu) && (decide (leastV l lf lu < 0) || decide (x ≤ leastV l lf lu))
theorem safe_a {l : List (Int × Int)} {lf lu x : Int} (h : ¬ lowL l lf lu ≤ highL l lf lu) : safeB l lf lu x = false := by simp [safeB, h]
theorem safe_b {l : List (Int × Int)} {lf lu x : Int} (h : lowL l lf lu ≤ highL l lf lu) (k : ¬ 0 ≤ leastV l lf lu) : safeB l lf lu x = true := by simp [safeB, h]; omega
theorem safe_c {l : List (Int × Int)} {lf lu x : Int} (h : lowL l lf lu ≤ highL l lf lu) (k : 0 ≤ leastV l lf lu) : safeB l lf lu x = decide (x ≤ leastV l lf lu) := by
  have e : decide (leastV l lf lu < 0) = false := decide_eq_false (by omega)
  unfold safeB
  rw [decide_eq_true h, e, Bool.true_and, Bool.false_or]
theorem safe_e {l : List (Int × Int)} {lf lu x : Int} (h : lowL l lf lu ≤ highL l lf lu) : safeB l lf lu x = (decide (leastV l lf lu < 0) || decide (x ≤ leastV l lf lu)) := by
  unfold safeB
  rw [decide_eq_true h, Bool.true_and]

theorem isSafe_any (A : Option Addr) (n c : Nat) (lf lu : Int) (l : List (Int × Int)) (x : Int) (w : World) (hs : Secs w w.heap.size A n l) (hv : Valid l lf lu) :
    Calls Try.prog 35 #[.agg #[.slice A n c, .int .i64 lf, .int .i64 lu], .int .i64 x] w fun e w' => e = .returned (.bool (safeB l lf lu x)) ∧ Below w.heap.size w w' := by
  obtain ⟨q0, q1, q2, q3, q4⟩ := boxed w 26 (.slice A n c) (.int .i64 lf) (.int .i64 lu)
  have HB := Lib.hid q3
  have hp : w.heap.size < (w.alloc (.cells #[.slice A n c, .int .i64 lf, .int .i64 lu] 26)).heap.size := by omega
  clear q3 q4
  have HP := Lib.hid (fun (W : World) (hW : Below w.heap.size w W) => loopPlaces_any A n c lf lu l W (hs.below hW hW.size) hv)
  have HL := Lib.hid (fun (W : World) (hW : Below w.heap.size w W) => leastApart_any A n c lf lu l W (hs.below hW hW.size) hv)
  by_cases hk : lowL l lf lu ≤ highL l lf lu
  · by_cases h0 : 0 ≤ leastV l lf lu
    · rw [safe_c hk h0]
      rw [decide_eq_true hk] at HP
      rw [decide_eq_true h0, vI_yes] at HL
      clear hs hv
      generalize lowL l lf lu = a at *
      generalize highL l lf lu = b at *
      generalize leastV l lf lu = v at *
      go_enter Try.func35, Try.ntmps35
      go_wp2_with fail
      generalize w.alloc (.cells #[.slice A n c, .int .i64 lf, .int .i64 lu] 26) = W0 at *
      have HB2 : Hid (∀ W, Below W0.heap.size W0 W → Below w.heap.size w W) := fun W hW => HB.out.trans (hW.mono (by omega))
      have b := Below.refl W0.heap.size W0
      refine (HP.out _ (HB2.out _ b)).mono ?_
      rintro e w1 ⟨rfl, hb⟩
      have z := keep3 hp q0 q1 q2 b hb
      clear q0 q1 q2 b hb
      obtain ⟨q0, q1, q2, b⟩ := z
      go_wp2_with fail
      refine (HL.out _ (HB2.out _ b)).mono ?_
      rintro e w2 ⟨rfl, hb⟩
      have z := keep3 hp q0 q1 q2 b hb
      clear q0 q1 q2 b hb
      obtain ⟨q0, q1, q2, b⟩ := z
      go_wp2_with fail
      go_ret
      exact ⟨rfl, HB2.out _ b⟩
    · rw [safe_b hk h0]
      rw [decide_eq_true hk] at HP
      rw [decide_eq_false h0, vI_no] at HL
      clear hs hv
      generalize lowL l lf lu = a at *
      generalize highL l lf lu = b at *
      generalize leastV l lf lu = v at *
      go_enter Try.func35, Try.ntmps35
      go_wp2_with fail
      generalize w.alloc (.cells #[.slice A n c, .int .i64 lf, .int .i64 lu] 26) = W0 at *
      have HB2 : Hid (∀ W, Below W0.heap.size W0 W → Below w.heap.size w W) := fun W hW => HB.out.trans (hW.mono (by omega))
      have b := Below.refl W0.heap.size W0
      refine (HP.out _ (HB2.out _ b)).mono ?_
      rintro e w1 ⟨rfl, hb⟩
      have z := keep3 hp q0 q1 q2 b hb
      clear q0 q1 q2 b hb
      obtain ⟨q0, q1, q2, b⟩ := z
      go_wp2_with fail
      refine (HL.out _ (HB2.out _ b)).mono ?_
      rintro e w2 ⟨rfl, hb⟩
      have z := keep3 hp q0 q1 q2 b hb
      clear q0 q1 q2 b hb
      obtain ⟨q0, q1, q2, b⟩ := z
      go_wp2_with fail
      go_ret
      exact ⟨rfl, HB2.out _ b⟩
  · rw [safe_a hk]
    rw [decide_eq_false hk] at HP
    generalize vI (decide (0 ≤ leastV l lf lu)) (leastV l lf lu) = g at *
    generalize decide (0 ≤ leastV l lf lu) = d at *
    clear hs hv
    generalize lowL l lf lu = a at *
    generalize highL l lf lu = b at *
    generalize leastV l lf lu = v at *
    go_enter Try.func35, Try.ntmps35
    go_wp2_with fail
    generalize w.alloc (.cells #[.slice A n c, .int .i64 lf, .int .i64 lu] 26) = W0 at *
    have HB2 : Hid (∀ W, Below W0.heap.size W0 W → Below w.heap.size w W) := fun W hW => HB.out.trans (hW.mono (by omega))
    have b := Below.refl W0.heap.size W0
    refine (HP.out _ (HB2.out _ b)).mono ?_
    rintro e w1 ⟨rfl, hb⟩
    have z := keep3 hp q0 q1 q2 b hb
    clear q0 q1 q2 b hb
    obtain ⟨q0, q1, q2, b⟩ := z
    go_wp2_with fail
    refine (HL.out _ (HB2.out _ b)).mono ?_
    rintro e w2 ⟨rfl, hb⟩
    have z := keep3 hp q0 q1 q2 b hb
    clear q0 q1 q2 b hb
    obtain ⟨q0, q1, q2, b⟩ := z
    go_wp2_with fail
    go_ret
    exact ⟨rfl, HB2.out _ b⟩

theorem implIsSafeTrack_any (A : Option Addr) (n c : Nat) (lf lu : Int) (l : List (Int × Int)) (x : Int) (w : World) (hs : Secs w w.heap.size A n l) (hn : n ≤ 1048576) :
    Calls Try.prog 17 #[.agg #[.slice A n c, .int .i64 lf, .int .i64 lu], .int .i64 x] w fun e w' => e = .returned (.bool (trackB l lf lu && (inB x 0 3000000 && safeB l lf lu x))) ∧ Below w.heap.size w w' := by
  obtain ⟨q0, q1, q2, q3, q4⟩ := boxed w 26 (.slice A n c) (.int .i64 lf) (.int .i64 lu)
  have HB := Lib.hid q3
  have hp : w.heap.size < (w.alloc (.cells #[.slice A n c, .int .i64 lf, .int .i64 lu] 26)).heap.size := by omega
  clear q3 q4
  have HV := Lib.hid (fun (W : World) (hW : Below w.heap.size w W) => implValidTrack_any A n c lf lu l W (hs.below hW hW.size) hn)
  cases hv : trackB l lf lu
  · rw [hv] at HV
    rw [Bool.false_and]
    clear hs
    go_enter Try.func17, Try.ntmps17
    go_wp2_with fail
    generalize w.alloc (.cells #[.slice A n c, .int .i64 lf, .int .i64 lu] 26) = W0 at *
    have HB2 : Hid (∀ W, Below W0.heap.size W0 W → Below w.heap.size w W) := fun W hW => HB.out.trans (hW.mono (by omega))
    have b := Below.refl W0.heap.size W0
    refine (HV.out _ (HB2.out _ b)).mono ?_
    rintro e w1 ⟨rfl, hb⟩
    have z := keep3 hp q0 q1 q2 b hb
    clear q0 q1 q2 b hb
    obtain ⟨q0, q1, q2, b⟩ := z
    go_wp2_with fail
    go_ret
    exact ⟨rfl, HB2.out _ b⟩
  rw [hv] at HV
  rw [Bool.true_and]
  have HP := Lib.hid (fun (W : World) (hW : Below w.heap.size w W) => isSafe_any A n c lf lu l x W (hs.below hW hW.size) (trackB_iff.1 hv))
  cases hx : inB x 0 3000000
  · rw [Bool.false_and]
    clear hs
    go_enter Try.func17, Try.ntmps17
    go_wp2_with fail
    generalize w.alloc (.cells #[.slice A n c, .int .i64 lf, .int .i64 lu] 26) = W0 at *
    have HB2 : Hid (∀ W, Below W0.heap.size W0 W → Below w.heap.size w W) := fun W hW => HB.out.trans (hW.mono (by omega))
    have b := Below.refl W0.heap.size W0
    refine (HV.out _ (HB2.out _ b)).mono ?_
    rintro e w1 ⟨rfl, hb⟩
    have z := keep3 hp q0 q1 q2 b hb
    clear q0 q1 q2 b hb
    obtain ⟨q0, q1, q2, b⟩ := z
    go_wp2_with fail
    refine (within_any _ _ _ _).mono ?_
    rintro e w2 ⟨rfl, rfl⟩
    go_wp2_with fail
    go_ret
    exact ⟨rfl, HB2.out _ b⟩
  · rw [Bool.true_and]
    clear hs
    go_enter Try.func17, Try.ntmps17
    go_wp2_with fail
    generalize w.alloc (.cells #[.slice A n c, .int .i64 lf, .int .i64 lu] 26) = W0 at *
    have HB2 : Hid (∀ W, Below W0.heap.size W0 W → Below w.heap.size w W) := fun W hW => HB.out.trans (hW.mono (by omega))
    have b := Below.refl W0.heap.size W0
    refine (HV.out _ (HB2.out _ b)).mono ?_
    rintro e w1 ⟨rfl, hb⟩
    have z := keep3 hp q0 q1 q2 b hb
    clear q0 q1 q2 b hb
    obtain ⟨q0, q1, q2, b⟩ := z
    go_wp2_with fail
    refine (within_any _ _ _ _).mono ?_
    rintro e w2 ⟨rfl, rfl⟩
    go_wp2_with fail
    refine (HP.out _ (HB2.out _ b)).mono ?_
    rintro e w3 ⟨rfl, hb⟩
    have z := keep3 hp q0 q1 q2 b hb
    clear q0 q1 q2 b hb
    obtain ⟨q0, q1, q2, b⟩ := z
    go_wp2_with fail
    go_ret
    exact ⟨rfl, HB2.out _ b⟩

end Go.Proofs.Ytiibpchbjaklcaa.TrkM
