/- The walks of speeds and dates as text, program and reference. -/
import Derived.Test.YtgjbpjpcihifnaaDoorTxtE
namespace Go.Proofs.YtgjbpjpcihifnaaDoor.TxtF
open Go.RowKit Go.Proofs.YtgjbpjpcihifnaaDoor.Plain Go.Proofs.YtgjbpjpcihifnaaDoor.TxtA Go.Proofs.YtgjbpjpcihifnaaDoor.TxtB Go.Proofs.YtgjbpjpcihifnaaDoor.TxtC Go.Proofs.YtgjbpjpcihifnaaDoor.TxtD Go.Proofs.YtgjbpjpcihifnaaDoor.TxtE Go.Proofs.YtgjbpjpcihifnaaDoor.WalkA Go.Proofs.YtgjbpjpcihifnaaDoor.WalkC Go.Proofs.YtgjbpjpcihifnaaDoor.WalkD Go.Proofs.YtgjbpjpcihifnaaDoor.WalkE

theorem fixed_size {n : Int} {k : Nat} (h1 : -1000000000 ≤ n) (h2 : n ≤ 1000000000) (hk1 : 1 ≤ k) (hk2 : k ≤ 6) : (fixedQ n k).size ≤ 40 := by
  obtain ⟨a0, a1, t1, t2, d0, d1, r0, r1, td, tm, zs1, rs1, hx⟩ := abs_parts h1 h2 hk1 hk2
  have sd := dec_size (n := absI n / (ten k : Int)) (by omega) (by omega)
  have ss : (sgn n).size ≤ 1 := by unfold sgn; split <;> decide
  unfold fixedQ
  rw [ByteArray.size_append, ByteArray.size_append, ByteArray.size_append, zs1]
  show (sgn n).size + _ + 1 + k ≤ 40
  omega
def speedP (n : Int) : ByteArray := if inB n 0 1000000000 = true then fixedQ n 3 ++ ⟨#[32, 109, 47, 115]⟩ else ⟨#[]⟩

theorem specSpeedText_any (n : Int) (_ : -9223372036854775808 ≤ n) (_ : n ≤ 9223372036854775807) (w : World) :
    Calls Tryd.prog 28 #[.int .i64 n] w fun e w' => e = .returned (.string (speedP n)) ∧ Below w.heap.size w w' := by
  have HW := Lib.hid (fun W => mass_any n W)
  have b : Below w.heap.size w w := Below.refl _ _
  unfold speedP
  by_cases hc : inB n 0 1000000000 = true
  · rw [if_pos hc]
    rw [hc] at HW
    obtain ⟨n1, n2⟩ := inB_iff.1 hc
    clear hc
    have H1 : Hid (∀ W, Calls Tryd.prog 52 #[.int .i64 n, .int .i64 3] W fun e w' => e = .returned (.string (fixedQ n 3)) ∧ Below W.heap.size W w') := fun W => l02Fixed_any n 3 (by omega) n2 (by omega) (by omega) W
    have s1 := fixed_size (n := n) (k := 3) (by omega) n2 (by omega) (by omega)
    generalize fixedQ n 3 = d1 at *
    go_enter Tryd.func28, Tryd.ntmps28
    go_wp2_with fail
    refine (HW.out _).mono ?_
    rintro e w1 ⟨rfl, rfl⟩
    go_wp2_with fail
    refine (H1.out _).mono ?_
    rintro e w2 ⟨rfl, hc⟩
    have b := b.trans (hc.mono b.size)
    clear hc
    go_wp2_with fail
    go_ret
    exact ⟨rfl, b⟩
  · rw [if_neg hc]
    have hc := Bool.eq_false_iff.2 hc
    rw [hc] at HW
    clear hc
    go_enter Tryd.func28, Tryd.ntmps28
    go_wp2_with fail
    refine (HW.out _).mono ?_
    rintro e w1 ⟨rfl, rfl⟩
    go_wp2_with fail
    go_ret
    exact ⟨rfl, b⟩

theorem implSpeedText_any (n : Int) (_ : -9223372036854775808 ≤ n) (_ : n ≤ 9223372036854775807) (w : World) (ht : Tab w) :
    Calls Tryd.prog 29 #[.int .i64 n] w fun e w' => e = .returned (.string (speedP n)) ∧ Below w.heap.size w w' := by
  have HW := Lib.hid (fun W => isUnit_any n W)
  have b : Below w.heap.size w w := Below.refl _ _
  unfold speedP
  by_cases hc : inB n 0 1000000000 = true
  · rw [if_pos hc]
    rw [hc] at HW
    obtain ⟨n1, n2⟩ := inB_iff.1 hc
    clear hc
    have H1 := Lib.hid (fun W (hb : Below w.heap.size w W) => implFixedText_any n (by omega) (by omega) 3 (by omega) (by omega) W (ht.below hb))
    have e3 : fixedP n 3 = fixedQ n 3 := if_pos ⟨inB_iff.2 ⟨by omega, n2⟩, rfl⟩
    rw [e3] at H1
    clear e3
    have s1 := fixed_size (n := n) (k := 3) (by omega) n2 (by omega) (by omega)
    clear ht
    generalize fixedQ n 3 = d1 at *
    go_enter Tryd.func29, Tryd.ntmps29
    go_wp2_with fail
    refine (HW.out _).mono ?_
    rintro e w1 ⟨rfl, rfl⟩
    go_wp2_with fail
    refine (H1.out _ b).mono ?_
    rintro e w2 ⟨rfl, hc⟩
    have b := b.trans (hc.mono b.size)
    clear hc
    go_wp2_with fail
    go_ret
    exact ⟨rfl, b⟩
  · rw [if_neg hc]
    have hc := Bool.eq_false_iff.2 hc
    rw [hc] at HW
    clear hc ht
    go_enter Tryd.func29, Tryd.ntmps29
    go_wp2_with fail
    refine (HW.out _).mono ?_
    rintro e w1 ⟨rfl, rfl⟩
    go_wp2_with fail
    go_ret
    exact ⟨rfl, b⟩

def dateT (day y m d : Int) : ByteArray := if inB day 0 36524 = true then dateP y m d else ⟨#[]⟩
theorem monL_le (y m : Int) : monL y m ≤ 31 := by unfold monL; split <;> (try split) <;> (try split) <;> omega
theorem date_bd {day y m d : Int} (h : IsDate day y m d) : 2000 ≤ y ∧ y ≤ 2099 ∧ 1 ≤ m ∧ m ≤ 12 ∧ 1 ≤ d ∧ d ≤ 31 := by
  obtain ⟨h1, h2, h3, h4, h5, h6, _⟩ := h
  have := monL_le y m
  omega
theorem l02Text_any (day y m d : Int) (hd : 0 ≤ day ∧ day ≤ 36524) (h : IsDate day y m d) (w : World) :
    Calls Tryd.prog 55 #[.int .i64 day] w fun e w' => e = .returned (.string (dateP y m d)) ∧ Below w.heap.size w w' := by
  obtain ⟨y1, y2, m1, m2, e1, e2⟩ := date_bd h
  have b : Below w.heap.size w w := Below.refl _ _
  have H0 := Lib.hid (fun W => specDate_any day y m d hd h W)
  have H1 := Lib.hid (fun W => specDec_any y (by omega) (by omega) W)
  have H2 := Lib.hid (fun W => two_any m (by omega) (by omega) W)
  have H3 := Lib.hid (fun W => two_any d (by omega) (by omega) W)
  have s0 := dec_size (n := y) (by omega) (by omega)
  have s1 := two_size (n := m) (by omega) (by omega)
  have s2 := two_size (n := d) (by omega) (by omega)
  unfold dateP
  generalize dec y = d0 at *
  generalize two m = d1 at *
  generalize two d = d2 at *
  clear hd h y1 y2 m1 m2 e1 e2
  go_enter Tryd.func55, Tryd.ntmps55
  go_wp2_with fail
  refine (H0.out _).mono ?_
  rintro e w1 ⟨rfl, hc⟩
  have b := b.trans (hc.mono b.size)
  clear hc
  go_wp2_with fail
  refine (H1.out _).mono ?_
  rintro e w2 ⟨rfl, hc⟩
  have b := b.trans (hc.mono b.size)
  clear hc
  go_wp2_with fail
  refine (H2.out _).mono ?_
  rintro e w3 ⟨rfl, hc⟩
  have b := b.trans (hc.mono b.size)
  clear hc
  go_wp2_with fail
  refine (H3.out _).mono ?_
  rintro e w4 ⟨rfl, hc⟩
  have b := b.trans (hc.mono b.size)
  clear hc
  go_wp2_with fail
  go_ret
  exact ⟨rfl, b⟩

theorem specDateText_any (day y m d : Int) (h : inB day 0 36524 = true → IsDate day y m d) (w : World) :
    Calls Tryd.prog 30 #[.int .i64 day] w fun e w' => e = .returned (.string (dateT day y m d)) ∧ Below w.heap.size w w' := by
  have HW := Lib.hid (fun W => day_any day W)
  have b : Below w.heap.size w w := Below.refl _ _
  unfold dateT
  by_cases hc : inB day 0 36524 = true
  · rw [if_pos hc]
    rw [hc] at HW
    have hdt := h hc
    obtain ⟨n1, n2⟩ := inB_iff.1 hc
    obtain ⟨y1, y2, m1, m2, e1, e2⟩ := date_bd hdt
    clear hc h
    have H0 := Lib.hid (fun W => l02Text_any day y m d ⟨n1, n2⟩ hdt W)
    unfold dateP at H0
    have s0 := dec_size (n := y) (by omega) (by omega)
    have s1 := two_size (n := m) (by omega) (by omega)
    have s2 := two_size (n := d) (by omega) (by omega)
    unfold dateP
    generalize dec y = d0 at *
    generalize two m = d1 at *
    generalize two d = d2 at *
    clear hdt y1 y2 m1 m2 e1 e2
    go_enter Tryd.func30, Tryd.ntmps30
    go_wp2_with fail
    refine (HW.out _).mono ?_
    rintro e w1 ⟨rfl, rfl⟩
    go_wp2_with fail
    refine (H0.out _).mono ?_
    rintro e w2 ⟨rfl, hc⟩
    have b := b.trans (hc.mono b.size)
    clear hc
    go_wp2_with fail
    go_ret
    exact ⟨rfl, b⟩
  · rw [if_neg hc]
    have hc := Bool.eq_false_iff.2 hc
    rw [hc] at HW
    clear hc h
    go_enter Tryd.func30, Tryd.ntmps30
    go_wp2_with fail
    refine (HW.out _).mono ?_
    rintro e w1 ⟨rfl, rfl⟩
    go_wp2_with fail
    go_ret
    exact ⟨rfl, b⟩

theorem implDateText_any (day y m d : Int) (h : inB day 0 36524 = true → IsDate day y m d) (w : World) (ht : Tab w) :
    Calls Tryd.prog 31 #[.int .i64 day] w fun e w' => e = .returned (.string (dateT day y m d)) ∧ Below w.heap.size w w' := by
  have HW := Lib.hid (fun W => isDay_any day W)
  have b : Below w.heap.size w w := Below.refl _ _
  unfold dateT
  by_cases hc : inB day 0 36524 = true
  · rw [if_pos hc]
    rw [hc] at HW
    have hdt := h hc
    obtain ⟨n1, n2⟩ := inB_iff.1 hc
    obtain ⟨y1, y2, m1, m2, e1, e2⟩ := date_bd hdt
    clear hc h
    have H0 := Lib.hid (fun W => dateOf_any day y m d ⟨n1, n2⟩ hdt W)
    have H1 := Lib.hid (fun W (hb : Below w.heap.size w W) => implDecimal_any y (by omega) (by omega) W (ht.below hb))
    have H2 := Lib.hid (fun W (hb : Below w.heap.size w W) => padded_any m (by omega) (by omega) 2 (by omega) (by omega) W (ht.below hb))
    have H3 := Lib.hid (fun W (hb : Below w.heap.size w W) => padded_any d (by omega) (by omega) 2 (by omega) (by omega) W (ht.below hb))
    rw [pad_two (n := m) (by omega) (by omega)] at H2
    rw [pad_two (n := d) (by omega) (by omega)] at H3
    have s0 := dec_size (n := y) (by omega) (by omega)
    have s1 := two_size (n := m) (by omega) (by omega)
    have s2 := two_size (n := d) (by omega) (by omega)
    unfold dateP
    generalize dec y = d0 at *
    generalize two m = d1 at *
    generalize two d = d2 at *
    clear hdt y1 y2 m1 m2 e1 e2 ht
    go_enter Tryd.func31, Tryd.ntmps31
    go_wp2_with fail
    refine (HW.out _).mono ?_
    rintro e w1 ⟨rfl, rfl⟩
    go_wp2_with fail
    refine (H0.out _).mono ?_
    rintro e w2 ⟨rfl, rfl⟩
    go_wp2_with fail
    refine (H1.out _ b).mono ?_
    rintro e w3 ⟨rfl, hc⟩
    have b := b.trans (hc.mono b.size)
    clear hc
    go_wp2_with fail
    refine (H2.out _ b).mono ?_
    rintro e w4 ⟨rfl, hc⟩
    have b := b.trans (hc.mono b.size)
    clear hc
    go_wp2_with fail
    refine (H3.out _ b).mono ?_
    rintro e w5 ⟨rfl, hc⟩
    have b := b.trans (hc.mono b.size)
    clear hc
    go_wp2_with fail
    go_ret
    exact ⟨rfl, b⟩
  · rw [if_neg hc]
    have hc := Bool.eq_false_iff.2 hc
    rw [hc] at HW
    clear hc h ht
    go_enter Tryd.func31, Tryd.ntmps31
    go_wp2_with fail
    refine (HW.out _).mono ?_
    rintro e w1 ⟨rfl, rfl⟩
    go_wp2_with fail
    go_ret
    exact ⟨rfl, b⟩

theorem date_of (x : Int) : ∃ y m d, (inB x 0 36524 = true → IsDate x y m d) := by
  by_cases h : inB x 0 36524 = true
  · obtain ⟨h1, h2⟩ := inB_iff.1 h
    obtain ⟨k, rfl⟩ : ∃ k : Nat, x = k := ⟨x.toNat, by omega⟩
    obtain ⟨y, m, d, hh⟩ := date_exists k h2
    exact ⟨y, m, d, fun _ => hh⟩
  · exact ⟨0, 0, 0, fun h' => absurd h' h⟩

end Go.Proofs.YtgjbpjpcihifnaaDoor.TxtF
