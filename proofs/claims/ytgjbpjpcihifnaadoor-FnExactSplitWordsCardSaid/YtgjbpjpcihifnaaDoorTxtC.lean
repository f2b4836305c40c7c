/- The walks of clock, lap and date texts, program and reference. -/
import Derived.Test.YtgjbpjpcihifnaaDoorTxtB
import Derived.Test.YtgjbpjpcihifnaaDoorWalkE
namespace Go.Proofs.YtgjbpjpcihifnaaDoor.TxtC
open Go.RowKit Go.Proofs.YtgjbpjpcihifnaaDoor.Plain Go.Proofs.YtgjbpjpcihifnaaDoor.TxtA Go.Proofs.YtgjbpjpcihifnaaDoor.TxtB Go.Proofs.YtgjbpjpcihifnaaDoor.WalkA Go.Proofs.YtgjbpjpcihifnaaDoor.WalkC Go.Proofs.YtgjbpjpcihifnaaDoor.WalkD Go.Proofs.YtgjbpjpcihifnaaDoor.WalkE

def clockP (n : Int) : ByteArray := if inB n 0 1439 = true then (two (n / 60) ++ ⟨#[58]⟩) ++ two (n % 60) else ⟨#[]⟩
def lapP (n : Int) : ByteArray := if inB n 0 1000000000 = true then (dec (n / 60) ++ ⟨#[58]⟩) ++ two (n % 60) else ⟨#[]⟩
def dateP (y m d : Int) : ByteArray := (((dec y ++ ⟨#[45]⟩) ++ two m) ++ ⟨#[45]⟩) ++ two d
theorem wf64 {n : Int} (h : (Lit.int .i64 n).wf = true) : -9223372036854775808 ≤ n ∧ n ≤ 9223372036854775807 := by
  have hmin : IntKind.i64.min = -9223372036854775808 := rfl
  have hmax : IntKind.i64.max = 9223372036854775807 := rfl
  simp only [Lit.wf, Bool.and_eq_true, decide_eq_true_eq] at h
  omega

theorem implClockText_any (n : Int) (_ : -9223372036854775808 ≤ n) (_ : n ≤ 9223372036854775807) (w : World) (ht : Tab w) :
    Calls Tryd.prog 23 #[.int .i64 n] w fun e w' => e = .returned (.string (clockP n)) ∧ Below w.heap.size w w' := by
  have HW := Lib.hid (fun W => within_any n 0 1439 W)
  have b : Below w.heap.size w w := Below.refl _ _
  unfold clockP
  by_cases hc : inB n 0 1439 = true
  · rw [if_pos hc]
    rw [hc] at HW
    obtain ⟨n1, n2⟩ := inB_iff.1 hc
    clear hc
    have H1 := Lib.hid (fun W (hb : Below w.heap.size w W) => (padded_any (n / 60) (by omega) (by omega) 2 (by omega) (by omega) W (ht.below hb)))
    have H2 := Lib.hid (fun W (hb : Below w.heap.size w W) => (padded_any (n % 60) (by omega) (by omega) 2 (by omega) (by omega) W (ht.below hb)))
    rw [pad_two (n := n / 60) (by omega) (by omega)] at H1
    rw [pad_two (n := n % 60) (by omega) (by omega)] at H2
    have s1 := two_size (n := n / 60) (by omega) (by omega)
    have s2 := two_size (n := n % 60) (by omega) (by omega)
    clear ht
    generalize two (n / 60) = d1 at *
    generalize two (n % 60) = d2 at *
    go_enter Tryd.func23, Tryd.ntmps23
    go_wp2_with fail
    refine (HW.out _).mono ?_
    rintro e w1 ⟨rfl, rfl⟩
    go_wp2_with fail
    refine (H1.out _ b).mono ?_
    rintro e w2 ⟨rfl, hc⟩
    have b := b.trans (hc.mono b.size)
    clear hc
    go_wp2_with fail
    refine (H2.out _ b).mono ?_
    rintro e w3 ⟨rfl, hc⟩
    have b := b.trans (hc.mono b.size)
    clear hc
    go_wp2_with fail
    go_ret
    exact ⟨rfl, b⟩
  · rw [if_neg hc]
    have hc := Bool.eq_false_iff.2 hc
    rw [hc] at HW
    clear hc ht
    go_enter Tryd.func23, Tryd.ntmps23
    go_wp2_with fail
    refine (HW.out _).mono ?_
    rintro e w1 ⟨rfl, rfl⟩
    go_wp2_with fail
    go_ret
    exact ⟨rfl, b⟩

theorem l02Clock_any (n : Int) (n1 : 0 ≤ n) (n2 : n ≤ 1439) (w : World) :
    Calls Tryd.prog 44 #[.int .i64 n] w fun e w' => e = .returned (.string ((two (n / 60) ++ ⟨#[58]⟩) ++ two (n % 60))) ∧ Below w.heap.size w w' := by
  have b : Below w.heap.size w w := Below.refl _ _
  have H1 := Lib.hid (fun W => two_any (n / 60) (by omega) (by omega) W)
  have H2 := Lib.hid (fun W => two_any (n % 60) (by omega) (by omega) W)
  have s1 := two_size (n := n / 60) (by omega) (by omega)
  have s2 := two_size (n := n % 60) (by omega) (by omega)
  generalize two (n / 60) = d1 at *
  generalize two (n % 60) = d2 at *
  go_enter Tryd.func44, Tryd.ntmps44
  go_wp2_with fail
  refine (H1.out _).mono ?_
  rintro e w1 ⟨rfl, hc⟩
  have b := b.trans (hc.mono b.size)
  clear hc
  go_wp2_with fail
  refine (H2.out _).mono ?_
  rintro e w2 ⟨rfl, hc⟩
  have b := b.trans (hc.mono b.size)
  clear hc
  go_wp2_with fail
  go_ret
  exact ⟨rfl, b⟩

theorem specClockText_any (n : Int) (_ : -9223372036854775808 ≤ n) (_ : n ≤ 9223372036854775807) (w : World) :
    Calls Tryd.prog 22 #[.int .i64 n] w fun e w' => e = .returned (.string (clockP n)) ∧ Below w.heap.size w w' := by
  have HW := Lib.hid (fun W => in_any n 0 1439 W)
  have b : Below w.heap.size w w := Below.refl _ _
  unfold clockP
  by_cases hc : inB n 0 1439 = true
  · rw [if_pos hc]
    rw [hc] at HW
    obtain ⟨n1, n2⟩ := inB_iff.1 hc
    clear hc
    have H1 := Lib.hid (fun W => l02Clock_any n n1 n2 W)
    have s1 := two_size (n := n / 60) (by omega) (by omega)
    have s2 := two_size (n := n % 60) (by omega) (by omega)
    generalize two (n / 60) = d1 at *
    generalize two (n % 60) = d2 at *
    go_enter Tryd.func22, Tryd.ntmps22
    go_wp2_with fail
    refine (HW.out _).mono ?_
    rintro e w1 ⟨rfl, rfl⟩
    go_wp2_with fail
    refine (H1.out _).mono ?_
    rintro e w2 ⟨rfl, hc⟩
    have b := b.trans (hc.mono b.size)
    clear hc
    go_wp2_with fail
    go_ret
    exact ⟨rfl, b⟩
  · rw [if_neg hc]
    have hc := Bool.eq_false_iff.2 hc
    rw [hc] at HW
    clear hc
    go_enter Tryd.func22, Tryd.ntmps22
    go_wp2_with fail
    refine (HW.out _).mono ?_
    rintro e w1 ⟨rfl, rfl⟩
    go_wp2_with fail
    go_ret
    exact ⟨rfl, b⟩

theorem implLapText_any (n : Int) (_ : -9223372036854775808 ≤ n) (_ : n ≤ 9223372036854775807) (w : World) (ht : Tab w) :
    Calls Tryd.prog 25 #[.int .i64 n] w fun e w' => e = .returned (.string (lapP n)) ∧ Below w.heap.size w w' := by
  have HW := Lib.hid (fun W => isUnit_any n W)
  have b : Below w.heap.size w w := Below.refl _ _
  unfold lapP
  by_cases hc : inB n 0 1000000000 = true
  · rw [if_pos hc]
    rw [hc] at HW
    obtain ⟨n1, n2⟩ := inB_iff.1 hc
    clear hc
    have H1 := Lib.hid (fun W (hb : Below w.heap.size w W) => (implDecimal_any (n / 60) (by omega) (by omega) W (ht.below hb)))
    have H2 := Lib.hid (fun W (hb : Below w.heap.size w W) => (padded_any (n % 60) (by omega) (by omega) 2 (by omega) (by omega) W (ht.below hb)))
    rw [pad_two (n := n % 60) (by omega) (by omega)] at H2
    have s1 := dec_size (n := n / 60) (by omega) (by omega)
    have s2 := two_size (n := n % 60) (by omega) (by omega)
    clear ht
    generalize dec (n / 60) = d1 at *
    generalize two (n % 60) = d2 at *
    go_enter Tryd.func25, Tryd.ntmps25
    go_wp2_with fail
    refine (HW.out _).mono ?_
    rintro e w1 ⟨rfl, rfl⟩
    go_wp2_with fail
    refine (H1.out _ b).mono ?_
    rintro e w2 ⟨rfl, hc⟩
    have b := b.trans (hc.mono b.size)
    clear hc
    go_wp2_with fail
    refine (H2.out _ b).mono ?_
    rintro e w3 ⟨rfl, hc⟩
    have b := b.trans (hc.mono b.size)
    clear hc
    go_wp2_with fail
    go_ret
    exact ⟨rfl, b⟩
  · rw [if_neg hc]
    have hc := Bool.eq_false_iff.2 hc
    rw [hc] at HW
    clear hc ht
    go_enter Tryd.func25, Tryd.ntmps25
    go_wp2_with fail
    refine (HW.out _).mono ?_
    rintro e w1 ⟨rfl, rfl⟩
    go_wp2_with fail
    go_ret
    exact ⟨rfl, b⟩

theorem l02Lap_any (n : Int) (n1 : 0 ≤ n) (n2 : n ≤ 1000000000) (w : World) :
    Calls Tryd.prog 48 #[.int .i64 n] w fun e w' => e = .returned (.string ((dec (n / 60) ++ ⟨#[58]⟩) ++ two (n % 60))) ∧ Below w.heap.size w w' := by
  have b : Below w.heap.size w w := Below.refl _ _
  have H1 := Lib.hid (fun W => specDec_any (n % 60) (by omega) (by omega) W)
  have H2 := Lib.hid (fun W => specDec_any (n / 60) (by omega) (by omega) W)
  have s1 := dec_size (n := n / 60) (by omega) (by omega)
  by_cases h : n % 60 < 10
  · have e2 : two (n % 60) = ⟨#[48]⟩ ++ dec (n % 60) := if_pos h
    rw [e2]
    have s2 := dec_one (n := n % 60) (by omega) (by omega)
    clear h e2
    generalize dec (n / 60) = d1 at *
    generalize dec (n % 60) = d2 at *
    go_enter Tryd.func48, Tryd.ntmps48
    go_wp2_with fail
    refine (H1.out _).mono ?_
    rintro e w1 ⟨rfl, hc⟩
    have b := b.trans (hc.mono b.size)
    clear hc
    go_wp2_with fail
    refine (H2.out _).mono ?_
    rintro e w2 ⟨rfl, hc⟩
    have b := b.trans (hc.mono b.size)
    clear hc
    go_wp2_with fail
    go_ret
    exact ⟨rfl, b⟩
  · have e2 : two (n % 60) = dec (n % 60) := if_neg h
    rw [e2]
    have s2 := dec_two (n := n % 60) (by omega) (by omega)
    clear h e2
    generalize dec (n / 60) = d1 at *
    generalize dec (n % 60) = d2 at *
    go_enter Tryd.func48, Tryd.ntmps48
    go_wp2_with fail
    refine (H1.out _).mono ?_
    rintro e w1 ⟨rfl, hc⟩
    have b := b.trans (hc.mono b.size)
    clear hc
    go_wp2_with fail
    refine (H2.out _).mono ?_
    rintro e w2 ⟨rfl, hc⟩
    have b := b.trans (hc.mono b.size)
    clear hc
    go_wp2_with fail
    go_ret
    exact ⟨rfl, b⟩

theorem specLapText_any (n : Int) (_ : -9223372036854775808 ≤ n) (_ : n ≤ 9223372036854775807) (w : World) :
    Calls Tryd.prog 24 #[.int .i64 n] w fun e w' => e = .returned (.string (lapP n)) ∧ Below w.heap.size w w' := by
  have HW := Lib.hid (fun W => mass_any n W)
  have b : Below w.heap.size w w := Below.refl _ _
  unfold lapP
  by_cases hc : inB n 0 1000000000 = true
  · rw [if_pos hc]
    rw [hc] at HW
    obtain ⟨n1, n2⟩ := inB_iff.1 hc
    clear hc
    have H1 := Lib.hid (fun W => l02Lap_any n n1 n2 W)
    have s1 := dec_size (n := n / 60) (by omega) (by omega)
    have s2 := two_size (n := n % 60) (by omega) (by omega)
    generalize dec (n / 60) = d1 at *
    generalize two (n % 60) = d2 at *
    go_enter Tryd.func24, Tryd.ntmps24
    go_wp2_with fail
    refine (HW.out _).mono ?_
    rintro e w1 ⟨rfl, rfl⟩
    go_wp2_with fail
    refine (H1.out _).mono ?_
    rintro e w2 ⟨rfl, hc⟩
    have b := b.trans (hc.mono b.size)
    clear hc
    go_wp2_with fail
    go_ret
    exact ⟨rfl, b⟩
  · rw [if_neg hc]
    have hc := Bool.eq_false_iff.2 hc
    rw [hc] at HW
    clear hc
    go_enter Tryd.func24, Tryd.ntmps24
    go_wp2_with fail
    refine (HW.out _).mono ?_
    rintro e w1 ⟨rfl, rfl⟩
    go_wp2_with fail
    go_ret
    exact ⟨rfl, b⟩

end Go.Proofs.YtgjbpjpcihifnaaDoor.TxtC
