/- The walks of the height between the cars and of the place of equal heights, program and reference. -/
import Derived.Test.YtiibpchbjaklcaaTrkM
namespace Go.Proofs.Ytiibpchbjaklcaa.TrkN
open Go.RowKit Go.Proofs.Ytiibpchbjaklcaa.Plain Go.Proofs.Ytiibpchbjaklcaa.TrkP Go.Proofs.Ytiibpchbjaklcaa.WalkA Go.Proofs.Ytiibpchbjaklcaa.TrkA Go.Proofs.Ytiibpchbjaklcaa.TrkB Go.Proofs.Ytiibpchbjaklcaa.TrkC Go.Proofs.Ytiibpchbjaklcaa.TrkD Go.Proofs.Ytiibpchbjaklcaa.TrkE Go.Proofs.Ytiibpchbjaklcaa.TrkF Go.Proofs.Ytiibpchbjaklcaa.TrkG Go.Proofs.Ytiibpchbjaklcaa.TrkH Go.Proofs.Ytiibpchbjaklcaa.TrkI Go.Proofs.Ytiibpchbjaklcaa.TrkJ Go.Proofs.Ytiibpchbjaklcaa.TrkK Go.Proofs.Ytiibpchbjaklcaa.TrkL Go.Proofs.Ytiibpchbjaklcaa.TrkM Go.Proofs.Ytiibpchbjaklcaa.Least

theorem specRise_any (p : Nat) (A : Option Addr) (n c : Nat) (l : List (Int × Int)) (x : Int) (B : Nat) (w : World) (h0 : w.cell? ⟨p, 0, none⟩ = some (.slice A n c)) (hs : Secs w B A n l) (hg : GoodL l) (hx : 0 ≤ x ∧ x ≤ lenAll l) (hlen : lenAll l ≤ 3000000) :
    Calls Try.prog 39 #[.pointer (some ⟨p, 0, none⟩), .int .i64 x] w fun e w' => e = .returned (.int .i64 (hAt l (lenAll l - x) - hAt l x)) ∧ w = w' := by
  have HL := Lib.hid (specLength_any p A n c l B w h0 hs hg)
  have HH := Lib.hid (fun (y : Int) hy => specHeight_any p A n c l y B w h0 hs hg hy)
  obtain ⟨x1, x2⟩ := hx
  obtain ⟨m1, m2⟩ := hAt_bds hg (x := lenAll l - x) (by omega)
  obtain ⟨m3, m4⟩ := hAt_bds hg x1
  clear hs hg h0
  generalize lenAll l = N at *
  go_enter Try.func39, Try.ntmps39
  go_wp2_with (first | (go_at_call 24; refine HL.out.mono ?_; rintro e w' ⟨rfl, rfl⟩) | (go_at_call 45; refine (HH.out _ ⟨by omega, by omega⟩).mono ?_; rintro e w' ⟨rfl, rfl⟩))
  go_ret
  exact ⟨rfl, rfl⟩

theorem heightBetween_any (A : Option Addr) (n c : Nat) (lf lu : Int) (l : List (Int × Int)) (x : Int) (w : World) (hs : Secs w w.heap.size A n l) (hg : GoodL l) (hx : 0 ≤ x ∧ x ≤ lenAll l) (hlen : lenAll l ≤ 3000000) :
    Calls Try.prog 28 #[.agg #[.slice A n c, .int .i64 lf, .int .i64 lu], .int .i64 x] w fun e w' => e = .returned (.int .i64 (hAt l (lenAll l - x) - hAt l x)) ∧ Below w.heap.size w w' := by
  obtain ⟨q0, q1, q2, q3, q4⟩ := boxed w 26 (.slice A n c) (.int .i64 lf) (.int .i64 lu)
  have HB := Lib.hid q3
  have hp : w.heap.size < (w.alloc (.cells #[.slice A n c, .int .i64 lf, .int .i64 lu] 26)).heap.size := by omega
  clear q3 q4
  have HL := Lib.hid (fun (W : World) (hW : Below w.heap.size w W) => implLength_any A n c lf lu l W (hs.below hW hW.size) hg)
  have HH := Lib.hid (fun (W : World) (hW : Below w.heap.size w W) (y : Int) hy => heightAt_any A n c lf lu l y W (hs.below hW hW.size) hg hy)
  obtain ⟨x1, x2⟩ := hx
  obtain ⟨m1, m2⟩ := hAt_bds hg (x := lenAll l - x) (by omega)
  obtain ⟨m3, m4⟩ := hAt_bds hg x1
  have k1 : IntKind.i64.wrap (lenAll l - x) = lenAll l - x := IntWalk.i64_in _ (by omega)
  have k2 : IntKind.i64.wrap (hAt l (lenAll l - x) - hAt l x) = hAt l (lenAll l - x) - hAt l x := IntWalk.i64_in _ (by omega)
  clear hs hg
  generalize lenAll l = N at *
  go_enter Try.func28, Try.ntmps28
  go_wp2
  generalize w.alloc (.cells #[.slice A n c, .int .i64 lf, .int .i64 lu] 26) = W0 at *
  have HB2 : Hid (∀ W, Below W0.heap.size W0 W → Below w.heap.size w W) := fun W hW => HB.out.trans (hW.mono (by omega))
  go_region_held3 (fun w' => w'.cell? ⟨w.heap.size, 0, none⟩ = some (.slice A n c) ∧ w'.cell? ⟨w.heap.size, 1, none⟩ = some (.int .i64 lf) ∧ w'.cell? ⟨w.heap.size, 2, none⟩ = some (.int .i64 lu) ∧ Below W0.heap.size W0 w')
    (first | exact ⟨q0, q1, q2, (Below.refl _ _).drew⟩ | (go_split_ands; exact keep3 hp (by assumption) (by assumption) (by assumption) (by assumption) (by first | assumption | exact Below.refl _ _)))
    (first | (go_at_call 26; refine (HL.out _ ?_).mono ?_; (exact HB2.out _ (by go_split_ands; assumption)); rintro e w2 ⟨rfl, hb2⟩) | (go_at_call 43; refine (HH.out _ ?_ _ ?_).mono ?_; (exact HB2.out _ (by go_split_ands; assumption)); (exact ⟨by omega, by omega⟩); rintro e w2 ⟨rfl, hb2⟩))
  all_goals
    go_wp2
    go_ret
    exact ⟨rfl, HB2.out _ (by go_split_ands; assumption)⟩

theorem implHeightBetween_any (A : Option Addr) (n c : Nat) (lf lu : Int) (l : List (Int × Int)) (x : Int) (w : World) (hs : Secs w w.heap.size A n l) (hn : n ≤ 1048576) :
    Calls Try.prog 11 #[.agg #[.slice A n c, .int .i64 lf, .int .i64 lu], .int .i64 x] w fun e w' => e = .returned (.tuple #[.int .i64 (vI (onB l lf lu x) (hAt l (lenAll l - x) - hAt l x)), .int .i64 (onI l lf lu x)]) ∧ Below w.heap.size w w' := by
  obtain ⟨q0, q1, q2, q3, q4⟩ := boxed w 26 (.slice A n c) (.int .i64 lf) (.int .i64 lu)
  have HV := Lib.hid (onTrack_any A n c lf lu l x _ (hs.below q3 q3.size) hn)
  have HB := Lib.hid q3
  have HZ := Lib.hid q4
  have HC := Lib.hid (And.intro q0 (And.intro q1 q2))
  have HS := Lib.hid hs
  clear q0 q1 q2 q3 q4 hs
  cases hv : trackB l lf lu
  · have e1 := onI_bad (x := x) hv
    have e2 : onB l lf lu x = false := by simp [onB, hv]
    rw [e1] at HV ⊢
    rw [e2]
    clear e1 e2 hv
    go_enter Try.func11, Try.ntmps11
    go_wp2_with (go_at_call 25; refine HV.out.mono ?_; rintro e w1 ⟨rfl, hb⟩)
    go_ret2
    exact ⟨rfl, HB.out.trans (hb.mono (by have := HZ.out; omega))⟩
  cases hx : inB x 0 (lenAll l)
  · have e1 := onI_out hv hx
    have e2 : onB l lf lu x = false := by simp [onB, hx]
    rw [e1] at HV ⊢
    rw [e2]
    clear e1 e2 hv hx
    go_enter Try.func11, Try.ntmps11
    go_wp2_with (go_at_call 25; refine HV.out.mono ?_; rintro e w1 ⟨rfl, hb⟩)
    go_ret2
    exact ⟨rfl, HB.out.trans (hb.mono (by have := HZ.out; omega))⟩
  · have e1 := onI_in hv hx
    have e2 : onB l lf lu x = true := by simp [onB, hv, hx]
    rw [e1] at HV ⊢
    rw [e2]
    have hval := trackB_iff.1 hv
    have hg := hval.good
    obtain ⟨x1, x2⟩ := inB_iff.1 hx
    have hlen := hval.len
    have hlen0 := (lenAll_bds hg).1
    clear e1 e2 hx hv
    go_enter Try.func11, Try.ntmps11
    go_wp2_with fail
    generalize w.alloc (.cells #[.slice A n c, .int .i64 lf, .int .i64 lu] 26) = W0 at *
    refine HV.out.mono ?_
    rintro e w1 ⟨rfl, hb⟩
    obtain ⟨q0, q1, q2⟩ := HC.out
    have hz : w.heap.size < W0.heap.size := by have := HZ.out; omega
    have r0 := (hb.cell (p := ⟨w.heap.size, 0, none⟩) hz).trans q0
    have r1 := (hb.cell (p := ⟨w.heap.size, 1, none⟩) hz).trans q1
    have r2 := (hb.cell (p := ⟨w.heap.size, 2, none⟩) hz).trans q2
    have B1 : Hid (Below w.heap.size w w1) := HB.out.trans (hb.mono (by omega))
    have HL := Lib.hid (heightBetween_any A n c lf lu l x w1 (HS.out.below B1.out B1.out.size) hg ⟨x1, x2⟩ hlen)
    clear q0 q1 q2 hz hb
    go_wp2_with (go_at_call 28; refine HL.out.mono ?_; rintro e w2 ⟨rfl, hb2⟩)
    go_ret2
    exact ⟨rfl, B1.out.trans (hb2.mono B1.out.size)⟩
theorem specHeightBetween_any (A : Option Addr) (n c : Nat) (lf lu : Int) (l : List (Int × Int)) (x : Int) (w : World) (hs : Secs w w.heap.size A n l) (hn : n ≤ 1048576) :
    Calls Try.prog 19 #[.agg #[.slice A n c, .int .i64 lf, .int .i64 lu], .int .i64 x] w fun e w' => e = .returned (.tuple #[.int .i64 (vI (onB l lf lu x) (hAt l (lenAll l - x) - hAt l x)), .int .i64 (onI l lf lu x)]) ∧ Below w.heap.size w w' := by
  obtain ⟨q0, q1, q2, q3, q4⟩ := boxed w 26 (.slice A n c) (.int .i64 lf) (.int .i64 lu)
  have HV := Lib.hid (specAsk_any w.heap.size A n c lf lu l x _ _ q0 q1 q2 (hs.below q3 (Nat.le_refl _)) (by omega))
  have HB := Lib.hid q3
  have HC := Lib.hid (And.intro q0 (And.intro q1 q2))
  have HS := Lib.hid hs
  clear q0 q1 q2 q3 q4 hs
  cases hv : trackB l lf lu
  · have e1 := onI_bad (x := x) hv
    have e2 : onB l lf lu x = false := by simp [onB, hv]
    rw [e1] at HV ⊢
    rw [e2]
    clear e1 e2 hv
    go_enter Try.func19, Try.ntmps19
    go_wp2_with (go_at_call 38; refine HV.out.mono ?_; rintro e w1 ⟨rfl, m, rfl⟩)
    go_ret2
    exact ⟨rfl, HB.out.trans (drew_below rfl _)⟩
  cases hx : inB x 0 (lenAll l)
  · have e1 := onI_out hv hx
    have e2 : onB l lf lu x = false := by simp [onB, hx]
    rw [e1] at HV ⊢
    rw [e2]
    clear e1 e2 hv hx
    go_enter Try.func19, Try.ntmps19
    go_wp2_with (go_at_call 38; refine HV.out.mono ?_; rintro e w1 ⟨rfl, m, rfl⟩)
    go_ret2
    exact ⟨rfl, HB.out.trans (drew_below rfl _)⟩
  · have e1 := onI_in hv hx
    have e2 : onB l lf lu x = true := by simp [onB, hv, hx]
    rw [e1] at HV ⊢
    rw [e2]
    have hval := trackB_iff.1 hv
    have hg := hval.good
    obtain ⟨x1, x2⟩ := inB_iff.1 hx
    have hlen := hval.len
    have hlen0 := (lenAll_bds hg).1
    have HL := Lib.hid (fun (m : Nat) => specRise_any w.heap.size A n c l x w.heap.size ((w.alloc (.cells #[.slice A n c, .int .i64 lf, .int .i64 lu] 26)).drewN m) HC.out.1 (HS.out.below (HB.out.trans (drew_below rfl _)) (Nat.le_refl _)) hg ⟨x1, x2⟩ hlen)
    clear e1 e2 hx hv
    go_enter Try.func19, Try.ntmps19
    go_wp2_with (first | (go_at_call 38; refine HV.out.mono ?_; rintro e w1 ⟨rfl, m, rfl⟩) | (go_at_call 39; refine (HL.out _).mono ?_; rintro e w2 ⟨rfl, rfl⟩))
    go_ret2
    exact ⟨rfl, HB.out.trans (drew_below rfl _)⟩


/-! ### the place of equal heights -/
def eqP (l : List (Int × Int)) (x : Int) : Bool := decide (hAt l (lenAll l - x) - hAt l x ≤ 0)
theorem eqP_rises {l : List (Int × Int)} (hg : GoodL l) (hi : Int) : Rises (eqP l) 0 hi := by
  intro i j _ h2 _ h4
  have a := of_decide_eq_true h4
  have b := hAt_mono hg h2
  have c := hAt_mono hg (show lenAll l - j ≤ lenAll l - i by omega)
  exact decide_eq_true (by omega)
theorem eqP_end {l : List (Int × Int)} (hg : GoodL l) : eqP l (lenAll l) = true := by
  have b := hAt_mono hg (show lenAll l - lenAll l ≤ lenAll l by have := (lenAll_bds hg).1; omega)
  exact decide_eq_true (by omega)
def eqR (l : List (Int × Int)) : Int := firstT (eqP l) 0 (lenAll l + 1).toNat
theorem eqR_is {l : List (Int × Int)} (hg : GoodL l) : Turn (eqP l) 0 (lenAll l) (eqR l) := by
  have := firstT_is (eqP l) 0 (lenAll l + 1).toNat
  have b := (lenAll_bds hg).1
  have e : (0 : Int) + ((lenAll l + 1).toNat : Int) - 1 = lenAll l := by omega
  rw [e] at this
  exact this
theorem eqClosure_any (p : Nat) (A : Option Addr) (n c : Nat) (lf lu : Int) (l : List (Int × Int)) (x : Int) (w : World) (hs : Secs w w.heap.size A n l) (hg : GoodL l) (hx : 0 ≤ x ∧ x ≤ lenAll l) (hlen : lenAll l ≤ 3000000)
    (r0 : w.cell? ⟨p, 0, none⟩ = some (.slice A n c)) (r1 : w.cell? ⟨p, 1, none⟩ = some (.int .i64 lf)) (r2 : w.cell? ⟨p, 2, none⟩ = some (.int .i64 lu)) :
    Calls Try.prog 37 #[.int .i64 x, .pointer (some ⟨p, 0, none⟩)] w fun e w' => e = .returned (.bool (eqP l x)) ∧ Below w.heap.size w w' := by
  have HA := Lib.hid (heightBetween_any A n c lf lu l x w hs hg hx hlen)
  unfold eqP
  clear hs hg hx hlen
  generalize hAt l (lenAll l - x) - hAt l x = d at *
  go_enter Try.func37, Try.ntmps37
  go_wp2_with (go_at_call 28; refine HA.out.mono ?_; rintro e w1 ⟨rfl, hb⟩)
  go_ret
  exact ⟨rfl, hb⟩
theorem eqLeast_any (p : Nat) (A : Option Addr) (n c : Nat) (lf lu : Int) (l : List (Int × Int)) (w : World) (hs : Secs w w.heap.size A n l) (hg : GoodL l) (hlen : lenAll l ≤ 3000000) (hp : p < w.heap.size)
    (r0 : w.cell? ⟨p, 0, none⟩ = some (.slice A n c)) (r1 : w.cell? ⟨p, 1, none⟩ = some (.int .i64 lf)) (r2 : w.cell? ⟨p, 2, none⟩ = some (.int .i64 lu)) :
    Calls Try.prog 36 #[.int .i64 0, .int .i64 (lenAll l), .func (.func 37) #[] #[.pointer (some ⟨p, 0, none⟩)]] w fun e w' => e = .returned (.int .i64 (eqR l)) ∧ Below w.heap.size w w' :=
  have hb := lenAll_bds hg
  least_any 37 _ (enters_of Try.func37 (by kernel_rfl) rfl) (eqP l) 0 (lenAll l) (eqR l) (by omega) (by omega) (by omega) (eqP_rises hg _) (eqR_is hg) w
    (fun W x hW x1 x2 => eqClosure_any p A n c lf lu l x W (hs.below hW hW.size) hg ⟨x1, x2⟩ hlen
      ((hW.cell (p := ⟨p, 0, none⟩) hp).trans r0) ((hW.cell (p := ⟨p, 1, none⟩) hp).trans r1) ((hW.cell (p := ⟨p, 2, none⟩) hp).trans r2))

theorem implEqualHeight_any (A : Option Addr) (n c : Nat) (lf lu : Int) (l : List (Int × Int)) (w : World) (hs : Secs w w.heap.size A n l) (hn : n ≤ 1048576) :
    Calls Try.prog 18 #[.agg #[.slice A n c, .int .i64 lf, .int .i64 lu]] w fun e w' => e = .returned (.tuple #[.int .i64 (vI (trackB l lf lu) (eqR l)), .int .i64 (cI (trackB l lf lu))]) ∧ Below w.heap.size w w' := by
  obtain ⟨q0, q1, q2, q3, q4⟩ := boxed w 26 (.slice A n c) (.int .i64 lf) (.int .i64 lu)
  have HB := Lib.hid q3
  have hp : w.heap.size < (w.alloc (.cells #[.slice A n c, .int .i64 lf, .int .i64 lu] 26)).heap.size := by omega
  clear q3 q4
  have HV := Lib.hid (fun (W : World) (hW : Below w.heap.size w W) => implValidTrack_any A n c lf lu l W (hs.below hW hW.size) hn)
  have hmf : ∀ (fn : Fn) (first cap : Array Value) (w : World), (Instr.makeFunc fn first cap).run Try.prog w = .ok (.func fn first cap) w := fun _ _ _ _ => rfl
  cases hv : trackB l lf lu
  · rw [hv] at HV
    rw [vI_no, show cI false = 1 from rfl]
    clear hs
    go_enter Try.func18, Try.ntmps18
    go_wp2_with fail
    generalize w.alloc (.cells #[.slice A n c, .int .i64 lf, .int .i64 lu] 26) = W0 at *
    have HB2 : Hid (∀ W, Below W0.heap.size W0 W → Below w.heap.size w W) := fun W hW => HB.out.trans (hW.mono (by omega))
    have b := Below.refl W0.heap.size W0
    refine (HV.out _ (HB2.out _ b)).mono ?_
    rintro e w1 ⟨rfl, hb⟩
    have z := keep3 hp q0 q1 q2 b hb
    clear q0 q1 q2 b hb
    obtain ⟨q0, q1, q2, b⟩ := z
    go_wp2_with fail
    go_ret2
    exact ⟨rfl, HB2.out _ b⟩
  rw [hv] at HV
  rw [vI_yes, show cI true = 0 from rfl]
  have hval := trackB_iff.1 hv
  have HL := Lib.hid (fun (W : World) (hW : Below w.heap.size w W) => implLength_any A n c lf lu l W (hs.below hW hW.size) hval.good)
  have HQ := Lib.hid (fun (W : World) (hW : Below w.heap.size w W) (h1 : w.heap.size < W.heap.size) r0 r1 r2 => eqLeast_any w.heap.size A n c lf lu l W (hs.below hW hW.size) hval.good hval.len h1 r0 r1 r2)
  have hlen := hval.len
  have hl0 := (lenAll_bds hval.good).1
  clear hs hval hv
  go_enter Try.func18, Try.ntmps18
  go_wp2_with fail
  generalize w.alloc (.cells #[.slice A n c, .int .i64 lf, .int .i64 lu] 26) = W0 at *
  have HB2 : Hid (∀ W, Below W0.heap.size W0 W → Below w.heap.size w W) := fun W hW => HB.out.trans (hW.mono (by omega))
  have b := Below.refl W0.heap.size W0
  refine (HV.out _ (HB2.out _ b)).mono ?_
  rintro e w1 ⟨rfl, hb⟩
  have z := keep3 hp q0 q1 q2 b hb
  clear q0 q1 q2 b hb
  obtain ⟨q0, q1, q2, b⟩ := z
  go_wp2_with fail
  refine (HL.out _ (HB2.out _ b)).mono ?_
  rintro e w2 ⟨rfl, hb⟩
  have z := keep3 hp q0 q1 q2 b hb
  clear q0 q1 q2 b hb
  obtain ⟨q0, q1, q2, b⟩ := z
  go_wp2_with fail
  refine (HQ.out _ (HB2.out _ b) (Nat.lt_of_lt_of_le hp b.size) q0 q1 q2).mono ?_
  rintro e w3 ⟨rfl, hb⟩
  have z := keep3 hp q0 q1 q2 b hb
  clear q0 q1 q2 b hb
  obtain ⟨q0, q1, q2, b⟩ := z
  go_wp2_with fail
  go_ret2
  exact ⟨rfl, HB2.out _ b⟩

end Go.Proofs.Ytiibpchbjaklcaa.TrkN
