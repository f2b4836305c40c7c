/- The walks of the slowest bend and of the seconds of all bends, program and reference. -/
import Derived.Test.YtlknncmnphbpkaaGreatDoorBlsD
import Derived.Test.YtlknncmnphbpkaaGreatDoorBndE
namespace Go.Proofs.YtlknncmnphbpkaaGreatDoor.BlsE
open Go.RowKit Go.Proofs.YtlknncmnphbpkaaGreatDoor.Plain Go.Proofs.YtlknncmnphbpkaaGreatDoor.WalkA Go.Proofs.YtlknncmnphbpkaaGreatDoor.WalkB Go.Proofs.YtlknncmnphbpkaaGreatDoor.WalkC Go.Proofs.YtlknncmnphbpkaaGreatDoor.WalkF Go.Proofs.YtlknncmnphbpkaaGreatDoor.WalkH Go.Proofs.YtlknncmnphbpkaaGreatDoor.BndA Go.Proofs.YtlknncmnphbpkaaGreatDoor.BLaw Go.Proofs.YtlknncmnphbpkaaGreatDoor.BndE Go.Proofs.YtlknncmnphbpkaaGreatDoor.BlsA Go.Proofs.YtlknncmnphbpkaaGreatDoor.BlsD

theorem listB_bd {bl : List Bnd} (h : listB bl = true) (i : Nat) (hi : i < bl.length) : (10000 ≤ (bAt bl i).r ∧ (bAt bl i).r ≤ 10000000) ∧ (1000 ≤ (bAt bl i).l ∧ (bAt bl i).l ≤ 1000000) ∧ (0 ≤ (bAt bl i).c ∧ (bAt bl i).c ≤ 200) :=
  (bendB_iff.1 (listB_at h i hi)).2
/-- The speed in a bend of a list. -/
@[irreducible] def spdI (bl : List Bnd) (m : Int) (i : Nat) : Int := spdT (bAt bl i).r (bAt bl i).c m - 1
theorem spdI_bd {bl : List Bnd} {m : Int} (h : listB bl = true) (hm : 0 ≤ m) (i : Nat) (hi : i < bl.length) : 0 ≤ spdI bl m i ∧ spdI bl m i ≤ 20000 := by
  obtain ⟨h1, _, h3⟩ := listB_bd h i hi
  obtain ⟨t1, t2, t3, t4⟩ := spdT_is (bAt bl i).r (bAt bl i).c m
  unfold spdI
  by_cases h0 : spdT (bAt bl i).r (bAt bl i).c m = 0
  · have := t4 (by omega)
    rw [h0] at this
    have a := of_decide_eq_true this
    have b := sideI_zero (r := (bAt bl i).r) (c := (bAt bl i).c) (by omega) h3.1
    omega
  · omega
def slowTo (bl : List Bnd) (m : Int) : Nat → Nat
  | 0 => 0
  | k + 1 => if spdI bl m k < spdI bl m (slowTo bl m k) then k else slowTo bl m k
theorem slow_less {bl : List Bnd} {m : Int} {k : Nat} (h : spdI bl m k < spdI bl m (slowTo bl m k)) : slowTo bl m (k + 1) = k := if_pos h
theorem slow_keep {bl : List Bnd} {m : Int} {k : Nat} (h : ¬ spdI bl m k < spdI bl m (slowTo bl m k)) : slowTo bl m (k + 1) = slowTo bl m k := if_neg h
theorem slow_first {bl : List Bnd} {m : Int} : slowTo bl m (0 + 1) = 0 := by
  by_cases h : spdI bl m 0 < spdI bl m (slowTo bl m 0)
  · exact slow_less h
  · exact slow_keep h
theorem slowTo_lt {bl : List Bnd} {m : Int} (h0 : 0 < bl.length) (k : Nat) (hk : k ≤ bl.length) : slowTo bl m k < bl.length := by
  induction k with
  | zero => exact h0
  | succ k ih =>
    by_cases h : spdI bl m k < spdI bl m (slowTo bl m k)
    · rw [slow_less h]; omega
    · rw [slow_keep h]; exact ih (by omega)
def slowOk (bl : List Bnd) (x : Int) : Bool := listB bl && (inB x 0 5000 && decide (0 < bl.length))
def slowA (bl : List Bnd) (x : Int) : Int := vB (slowOk bl x) (slowTo bl x bl.length)
def slowB (bl : List Bnd) (x : Int) : Int := vB (slowOk bl x) (spdI bl x (slowTo bl x bl.length))
def slowC (bl : List Bnd) (x : Int) : Int := if listB bl = true then (if inB x 0 5000 = true then (if 0 < bl.length then 0 else 3) else 2) else 1
theorem slow_bad {bl : List Bnd} {x : Int} (h : listB bl = false) : slowA bl x = 0 ∧ slowB bl x = 0 ∧ slowC bl x = 1 := by simp [slowA, slowB, slowC, slowOk, h, vB]
theorem slow_out {bl : List Bnd} {x : Int} (h : listB bl = true) (k : inB x 0 5000 = false) : slowA bl x = 0 ∧ slowB bl x = 0 ∧ slowC bl x = 2 := by simp [slowA, slowB, slowC, slowOk, h, k, vB]
theorem slow_none {bl : List Bnd} {x : Int} (h : listB bl = true) (k : inB x 0 5000 = true) (z : bl.length = 0) : slowA bl x = 0 ∧ slowB bl x = 0 ∧ slowC bl x = 3 := by simp [slowA, slowB, slowC, slowOk, h, k, z, vB]
theorem slow_ok {bl : List Bnd} {x : Int} (h : listB bl = true) (k : inB x 0 5000 = true) (z : 0 < bl.length) : slowA bl x = slowTo bl x bl.length ∧ slowB bl x = spdI bl x (slowTo bl x bl.length) ∧ slowC bl x = 0 := by simp [slowA, slowB, slowC, slowOk, h, k, z, vB]
/-- The seconds of the first bends; whether a speed is 0. -/
def secTo (bl : List Bnd) (m : Int) : Nat → Int
  | 0 => 0
  | k + 1 => secTo bl m k + ((bAt bl k).l + spdI bl m k - 1) / spdI bl m k
def halt (bl : List Bnd) (m : Int) : Nat → Bool
  | 0 => false
  | k + 1 => halt bl m k || decide (spdI bl m k = 0)
theorem halt_up {bl : List Bnd} {m : Int} {k n : Nat} (h : halt bl m k = true) (hk : k ≤ n) : halt bl m n = true := by
  induction n with
  | zero => obtain rfl : k = 0 := by omega
            exact h
  | succ n ih =>
    rcases Nat.lt_or_ge n k with h1 | h1
    · obtain rfl : k = n + 1 := by omega
      exact h
    · simp [halt, ih h1]
theorem secTo_bd {bl : List Bnd} {m : Int} (h : listB bl = true) (hm : 0 ≤ m) (k : Nat) (hk : k ≤ bl.length) (hz : halt bl m k = false) : 0 ≤ secTo bl m k ∧ secTo bl m k ≤ 1020000 * k := by
  induction k with
  | zero => simp [secTo]
  | succ k ih =>
    simp only [halt, Bool.or_eq_false_iff, decide_eq_false_iff_not] at hz
    obtain ⟨a, b⟩ := ih (by omega) hz.1
    obtain ⟨_, h2, _⟩ := listB_bd h k (by omega)
    obtain ⟨d1, d2⟩ := spdI_bd h hm k (by omega)
    have e := ediv_bounds (x := (bAt bl k).l + spdI bl m k - 1) (y := spdI bl m k) (by omega) (by omega)
    have e2 : secTo bl m (k + 1) = secTo bl m k + ((bAt bl k).l + spdI bl m k - 1) / spdI bl m k := rfl
    rw [e2]
    omega
def lastA (bl : List Bnd) (x : Int) : Int := vB (listB bl && (inB x 0 5000 && !halt bl x bl.length)) (secTo bl x bl.length)
def lastC (bl : List Bnd) (x : Int) : Int := if listB bl = true then (if inB x 0 5000 = true then (if halt bl x bl.length = true then 6 else 0) else 2) else 1
theorem last_bad {bl : List Bnd} {x : Int} (h : listB bl = false) : lastA bl x = 0 ∧ lastC bl x = 1 := by simp [lastA, lastC, h, vB]
theorem last_out {bl : List Bnd} {x : Int} (h : listB bl = true) (k : inB x 0 5000 = false) : lastA bl x = 0 ∧ lastC bl x = 2 := by simp [lastA, lastC, h, k, vB]
theorem last_halt {bl : List Bnd} {x : Int} (h : listB bl = true) (k : inB x 0 5000 = true) (z : halt bl x bl.length = true) : lastA bl x = 0 ∧ lastC bl x = 6 := by simp [lastA, lastC, h, k, z, vB]
theorem last_ok {bl : List Bnd} {x : Int} (h : listB bl = true) (k : inB x 0 5000 = true) (z : halt bl x bl.length = false) : lastA bl x = secTo bl x bl.length ∧ lastC bl x = 0 := by simp [lastA, lastC, h, k, z, vB]
theorem ret_three {a b c a' b' c' : Int} (h1 : a = a') (h2 : b = b') (h3 : c = c') : Ending.returned (.tuple #[.int .i64 a, .int .i64 b, .int .i64 c]) = .returned (.tuple #[.int .i64 a', .int .i64 b', .int .i64 c']) := by rw [h1, h2, h3]
theorem ret_two {a b a' b' : Int} (h1 : a = a') (h2 : b = b') : Ending.returned (.tuple #[.int .i64 a, .int .i64 b]) = .returned (.tuple #[.int .i64 a', .int .i64 b']) := by rw [h1, h2]
theorem val_int {a b : Int} (h : a = b) : Value.int .i64 a = .int .i64 b := by rw [h]
theorem specInAt {bl : List Bnd} {b o i : Nat} {x : Int} (h : listB bl = true) (hx : 0 ≤ x) (hi : i < bl.length) (w : World) (hc : Cells4 w b o (bAt bl i)) (m : Nat) :
    Calls Tryz.prog 43 #[.pointer (some ⟨b, o, none⟩), .int .i64 x] (w.drewN m) fun e w' => e = .returned (.int .i64 (spdI bl x i)) ∧ ∃ n, w' = (w.drewN m).drewN n := by
  obtain ⟨h1, _, h3⟩ := listB_bd h i hi
  unfold spdI
  exact specIn_any b o _ _ x ⟨by omega, by omega⟩ h3 hx (w.drewN m) hc.2.1 hc.2.2.2
theorem implInAt {bl : List Bnd} {i : Nat} {x : Int} (h : listB bl = true) (hi : i < bl.length) (w : World) :
    Calls Tryz.prog 40 #[.agg #[.string (bAt bl i).s, .int .i64 (bAt bl i).r, .int .i64 (bAt bl i).l, .int .i64 (bAt bl i).c], .int .i64 x] w fun e w' => e = .returned (.int .i64 (spdI bl x i)) ∧ Below w.heap.size w w' := by
  obtain ⟨h1, _, h3⟩ := listB_bd h i hi
  unfold spdI
  exact speedIn_any _ _ _ _ x ⟨by omega, by omega⟩ h3 w
theorem keep9 {p b o : Nat} {W wc w2 : World} {v0 v1 v2 v3 : Value} {x : Bnd} (hp : p < W.heap.size) (hq : b < W.heap.size) (h0 : wc.cell? ⟨p, 0, none⟩ = some v0) (h1 : wc.cell? ⟨p, 1, none⟩ = some v1) (h2 : wc.cell? ⟨p, 2, none⟩ = some v2) (h3 : wc.cell? ⟨p, 3, none⟩ = some v3) (hu : Cells4 wc b o x)
    (hb : Below W.heap.size W wc) (h : Below wc.heap.size wc w2) :
    w2.cell? ⟨p, 0, none⟩ = some v0 ∧ w2.cell? ⟨p, 1, none⟩ = some v1 ∧ w2.cell? ⟨p, 2, none⟩ = some v2 ∧ w2.cell? ⟨p, 3, none⟩ = some v3 ∧ w2.cell? ⟨b, o, none⟩ = some (.string x.s) ∧ w2.cell? ⟨b, o + 1, none⟩ = some (.int .i64 x.r) ∧ w2.cell? ⟨b, o + 2, none⟩ = some (.int .i64 x.l) ∧ w2.cell? ⟨b, o + 3, none⟩ = some (.int .i64 x.c) ∧ Below W.heap.size W w2 :=
  have a := hb.size
  have z0 : p < wc.heap.size := by omega
  have z1 : b < wc.heap.size := by omega
  have k := hu.below h z1
  ⟨(h.cell (p := ⟨p, 0, none⟩) z0).trans h0, (h.cell (p := ⟨p, 1, none⟩) z0).trans h1, (h.cell (p := ⟨p, 2, none⟩) z0).trans h2, (h.cell (p := ⟨p, 3, none⟩) z0).trans h3, k.1, k.2.1, k.2.2.1, k.2.2.2, hb.trans (h.mono a)⟩

theorem implLast_any (A : Option Addr) (n c : Nat) (bl : List Bnd) (x : Int) (w : World) (hs : Bnds w w.heap.size A n bl) (hn : n ≤ 9223372036854775807) :
    Calls Tryz.prog 13 #[.slice A n c, .int .i64 x] w fun e w' => e = .returned (.tuple #[.int .i64 (lastA bl x), .int .i64 (lastC bl x)]) ∧ Below w.heap.size w w' := by
  have HO := Lib.hid (implListOk_any A n c bl w hs hn)
  have HS := Lib.hid hs
  obtain ⟨rfl, _⟩ := hs
  cases hv : listB bl
  · rw [hv] at HO
    obtain ⟨e1, e2⟩ := last_bad (x := x) hv
    rw [e1, e2]
    clear e1 e2
    go_enter Tryz.func13, Tryz.ntmps13
    go_wp2_with (first | (go_at_call 30; refine HO.out.mono ?_; rintro e w1 ⟨rfl, hb1⟩))
    go_ret2
    exact ⟨rfl, hb1⟩
  rw [hv] at HO
  cases hx : inB x 0 5000
  · obtain ⟨e1, e2⟩ := last_out hv hx
    rw [e1, e2]
    clear e1 e2
    go_enter Tryz.func13, Tryz.ntmps13
    go_wp2_with (first | (go_at_call 30; refine HO.out.mono ?_; rintro e w1 ⟨rfl, hb1⟩) | (go_at_call 39; refine (isSide_any _ _).mono ?_; rintro e w1 ⟨rfl, rfl⟩))
    go_ret2
    exact ⟨rfl, hb1⟩
  have hx0 := (inB_iff.1 hx).1
  have HD := Lib.hid (fun i hi => spdI_bd hv hx0 i hi)
  have HB0 := Lib.hid (fun i hi => listB_bd hv i hi)
  have HSB := Lib.hid (fun k hk hz => secTo_bd hv hx0 k hk hz)
  have HHT : Hid (halt bl x bl.length = true → lastA bl x = 0 ∧ lastC bl x = 6) := last_halt hv hx
  have HOK : Hid (halt bl x bl.length = false → lastA bl x = secTo bl x bl.length ∧ lastC bl x = 0) := last_ok hv hx
  have hn12 := listB_len hv
  have HI := Lib.hid (fun i hi => implInAt (x := x) (i := i) hv hi)
  clear hv
  go_enter Tryz.func13, Tryz.ntmps13
  go_wp2_with (first | (go_at_call 30; refine HO.out.mono ?_; rintro e w1 ⟨rfl, hb1⟩) | (go_at_call 39; refine (isSide_any _ _).mono ?_; rintro e w1 ⟨rfl, rfl⟩))
  have HB1 := Lib.hid hb1
  clear hb1
  go_loopw [6, 18] (fun p i wr => ∃ k : Nat, k ≤ bl.length ∧ i = .int .i64 k ∧ p = .int .i64 (secTo bl x k) ∧ Hid (halt bl x k = false) ∧ Hid (Below w.heap.size w wr)) (fun _ i _ => bl.length - (intOf i).toNat)
  case atStart => exact ⟨0, Nat.zero_le _, rfl, rfl, rfl, HB1.out⟩
  case round =>
    obtain ⟨k, hk, rfl, rfl, hh, hw⟩ := hrel
    by_cases hlt : k < bl.length
    · obtain ⟨b, off, rfl, hb, hc⟩ := (HS.out.below hw.out hw.out.size).2.2 (by omega)
      obtain ⟨c0, c1, c2, c3⟩ := hc k hlt
      clear hc
      have HV := Lib.hid (HI.out k hlt)
      have HNX : Hid (¬ spdI bl x k = 0 → halt bl x (k + 1) = false) := fun h => by simp [halt, hh.out, h]
      have HST : Hid (spdI bl x k = 0 → halt bl x bl.length = true) := fun h => halt_up (k := k + 1) (by simp [halt, h]) hlt
      have HSS : Hid (secTo bl x (k + 1) = secTo bl x k + ((bAt bl k).l + spdI bl x k - 1) / spdI bl x k) := rfl
      obtain ⟨s1, s2⟩ := HSB.out k hk hh.out
      obtain ⟨d1, d2⟩ := HD.out k hlt
      obtain ⟨_, ⟨l1, l2⟩, _⟩ := HB0.out k hlt
      generalize spdI bl x k = v at *
      generalize bAt bl k = y at *
      obtain ⟨s, r, l, q⟩ := y
      generalize secTo bl x k = u at *
      obtain ⟨q0, q1, q2, q3, q4, q5⟩ := boxed4 wr 25 (.string s) (.int .i64 r) (.int .i64 l) (.int .i64 q)
      have HB := Lib.hid q4
      have hp : wr.heap.size < (wr.alloc (.cells #[.string s, .int .i64 r, .int .i64 l, .int .i64 q] 25)).heap.size := by omega
      clear q4 q5
      have l1' : 1000 ≤ l := l1
      have l2' : l ≤ 1000000 := l2
      by_cases h0 : v = 0
      · have HR := Lib.hid (HHT.out (HST.out h0))
        have z0 : ((v : Int) == 0) = true := by rw [h0]; rfl
        go_wp2_with fail
        generalize (wr.alloc (.cells #[.string s, .int .i64 r, .int .i64 l, .int .i64 q] 25)) = W0 at *
        refine (HV.out _).mono ?_
        rintro e w2 ⟨rfl, hb2⟩
        have HB2 := Lib.hid (hw.out.trans ((HB.out.trans (hb2.mono (by omega))).mono hw.out.size))
        clear hb2
        go_wp2
        go_ret2
        exact ⟨ret_two HR.out.1.symm HR.out.2.symm, HB2.out⟩
      · have HR := Lib.hid (HNX.out h0)
        have z0 : ((v : Int) == 0) = false := by rw [beq_eq_false_iff_ne]; exact h0
        obtain ⟨f1, f2⟩ := ediv_bounds (x := l + v - 1) (y := v) (by omega) (by omega)
        go_wp2_with fail
        generalize (wr.alloc (.cells #[.string s, .int .i64 r, .int .i64 l, .int .i64 q] 25)) = W0 at *
        refine (HV.out _).mono ?_
        rintro e w2 ⟨rfl, hb2⟩
        have HB2 := Lib.hid (hw.out.trans ((HB.out.trans (hb2.mono (by omega))).mono hw.out.size))
        have z := keepB hp q0 q1 q2 q3 (Below.refl _ _) hb2
        clear q0 q1 q2 q3 hb2
        obtain ⟨q0, q1, q2, q3, _⟩ := z
        go_wp2_with (go_at_call 41; refine (ceil_any _ _ ⟨by omega, by omega⟩ ⟨by omega, by omega⟩ _).mono ?_; rintro e w3 ⟨rfl, rfl⟩)
        go_roundw
        case rel => exact ⟨k + 1, by omega, by go_num, val_int (by rw [HSS.out]), HR.out, HB2.out⟩
        case measure => simp [intOf]; omega
    · have e : k = bl.length := by omega
      subst e
      have HR := Lib.hid (HOK.out hh.out)
      go_wp2
      go_ret2
      exact ⟨ret_two HR.out.1.symm HR.out.2.symm, hw.out⟩

end Go.Proofs.YtlknncmnphbpkaaGreatDoor.BlsE
