/- The walks of lengths, codes of places and the places of the other car, program and reference. -/
import Derived.Test.YtcpppiafjlgimaaTrkD
namespace Go.Proofs.Ytcpppiafjlgimaa.TrkE
open Go.RowKit Go.Proofs.Ytcpppiafjlgimaa.Plain Go.Proofs.Ytcpppiafjlgimaa.TrkP Go.Proofs.Ytcpppiafjlgimaa.WalkA Go.Proofs.Ytcpppiafjlgimaa.TrkA Go.Proofs.Ytcpppiafjlgimaa.TrkB Go.Proofs.Ytcpppiafjlgimaa.TrkC Go.Proofs.Ytcpppiafjlgimaa.TrkD

def vI (c : Bool) (v : Int) : Int := if c = true then v else 0
def cI (c : Bool) : Int := if c = true then 0 else 1
/-- The first error of a track and a place. -/
def onI (l : List (Int × Int)) (lf lu x : Int) : Int := if trackB l lf lu = true then (if inB x 0 (lenAll l) = true then 0 else 2) else 1
def onB (l : List (Int × Int)) (lf lu x : Int) : Bool := trackB l lf lu && inB x 0 (lenAll l)
theorem onI_bad {l : List (Int × Int)} {lf lu x : Int} (h : trackB l lf lu = false) : onI l lf lu x = 1 := by simp [onI, h]
theorem onI_out {l : List (Int × Int)} {lf lu x : Int} (h : trackB l lf lu = true) (k : inB x 0 (lenAll l) = false) : onI l lf lu x = 2 := by simp [onI, h, k]
theorem onI_in {l : List (Int × Int)} {lf lu x : Int} (h : trackB l lf lu = true) (k : inB x 0 (lenAll l) = true) : onI l lf lu x = 0 := by simp [onI, h, k]
theorem drew_below {w w' : World} {m : Nat} (h : w' = w.drewN m) (B : Nat) : Below B w w' := by subst h; exact ⟨rfl, rfl, rfl, Nat.le_refl _, fun _ _ => rfl⟩

theorem implTrackLength_any (A : Option Addr) (n c : Nat) (lf lu : Int) (l : List (Int × Int)) (w : World) (hs : Secs w w.heap.size A n l) (hn : n ≤ 1048576) :
    Calls Try.prog 6 #[.agg #[.slice A n c, .int .i64 lf, .int .i64 lu]] w fun e w' => e = .returned (.tuple #[.int .i64 (vI (trackB l lf lu) (lenAll l)), .int .i64 (cI (trackB l lf lu))]) ∧ Below w.heap.size w w' := by
  obtain ⟨q0, q1, q2, q3, q4⟩ := boxed w 26 (.slice A n c) (.int .i64 lf) (.int .i64 lu)
  have HV := Lib.hid (implValidTrack_any A n c lf lu l _ (hs.below q3 q3.size) hn)
  have HB := Lib.hid q3
  have HZ := Lib.hid q4
  have HC := Lib.hid (And.intro q0 (And.intro q1 q2))
  have HS := Lib.hid hs
  clear q0 q1 q2 q3 q4 hs
  cases hv : trackB l lf lu
  · rw [hv] at HV
    go_enter Try.func6, Try.ntmps6
    go_wp2_with (go_at_call 7; refine HV.out.mono ?_; rintro e w1 ⟨rfl, hb⟩)
    go_ret2
    exact ⟨rfl, HB.out.trans (hb.mono (by have := HZ.out; omega))⟩
  · rw [hv] at HV
    have hg := (trackB_iff.1 hv).good
    go_enter Try.func6, Try.ntmps6
    go_wp2_with fail
    generalize w.alloc (.cells #[.slice A n c, .int .i64 lf, .int .i64 lu] 26) = W0 at *
    refine HV.out.mono ?_
    rintro e w1 ⟨rfl, hb⟩
    obtain ⟨q0, q1, q2⟩ := HC.out
    have hz : w.heap.size < W0.heap.size := by have := HZ.out; omega
    have r0 := (hb.cell (p := ⟨w.heap.size, 0, none⟩) hz).trans q0
    have r1 := (hb.cell (p := ⟨w.heap.size, 1, none⟩) hz).trans q1
    have r2 := (hb.cell (p := ⟨w.heap.size, 2, none⟩) hz).trans q2
    have B1 : Hid (Below w.heap.size w w1) := HB.out.trans (hb.mono (by omega))
    have HL := Lib.hid (implLength_any A n c lf lu l w1 (HS.out.below B1.out B1.out.size) hg)
    clear q0 q1 q2 hz hb
    go_wp2_with (go_at_call 21; refine HL.out.mono ?_; rintro e w2 ⟨rfl, hb2⟩)
    go_ret2
    exact ⟨rfl, B1.out.trans (hb2.mono B1.out.size)⟩
theorem specTrackLength_any (A : Option Addr) (n c : Nat) (lf lu : Int) (l : List (Int × Int)) (w : World) (hs : Secs w w.heap.size A n l) (hn : n ≤ 1048576) :
    Calls Try.prog 9 #[.agg #[.slice A n c, .int .i64 lf, .int .i64 lu]] w fun e w' => e = .returned (.tuple #[.int .i64 (vI (trackB l lf lu) (lenAll l)), .int .i64 (cI (trackB l lf lu))]) ∧ Below w.heap.size w w' := by
  obtain ⟨q0, q1, q2, q3, q4⟩ := boxed w 26 (.slice A n c) (.int .i64 lf) (.int .i64 lu)
  have HO := Lib.hid (specOk_any w.heap.size A n c lf lu l _ _ q0 q1 q2 (hs.below q3 (Nat.le_refl _)) (by omega))
  have HL := Lib.hid (fun (m : Nat) hg => specLength_any w.heap.size A n c l w.heap.size ((w.alloc (.cells #[.slice A n c, .int .i64 lf, .int .i64 lu] 26)).drewN m) q0 (hs.below (q3.trans (drew_below rfl _)) (Nat.le_refl _)) hg)
  have HB := Lib.hid q3
  clear q0 q1 q2 q3 q4 hs
  cases hv : trackB l lf lu
  · rw [hv] at HO
    go_enter Try.func9, Try.ntmps9
    go_wp2_with (go_at_call 23; refine HO.out.mono ?_; rintro e w1 ⟨rfl, m, rfl⟩)
    go_ret2
    exact ⟨rfl, HB.out.trans (drew_below rfl _)⟩
  · rw [hv] at HO
    have hg := (trackB_iff.1 hv).good
    go_enter Try.func9, Try.ntmps9
    go_wp2_with (first | (go_at_call 23; refine HO.out.mono ?_; rintro e w1 ⟨rfl, m, rfl⟩) | (go_at_call 24; refine (HL.out _ hg).mono ?_; rintro e w1 ⟨rfl, rfl⟩))
    go_ret2
    exact ⟨rfl, HB.out.trans (drew_below rfl _)⟩

/-! ### a track and a place -/
theorem onTrack_any (A : Option Addr) (n c : Nat) (lf lu : Int) (l : List (Int × Int)) (x : Int) (w : World) (hs : Secs w w.heap.size A n l) (hn : n ≤ 1048576) :
    Calls Try.prog 26 #[.agg #[.slice A n c, .int .i64 lf, .int .i64 lu], .int .i64 x] w fun e w' => e = .returned (.int .i64 (onI l lf lu x)) ∧ Below w.heap.size w w' := by
  obtain ⟨q0, q1, q2, q3, q4⟩ := boxed w 26 (.slice A n c) (.int .i64 lf) (.int .i64 lu)
  have HV := Lib.hid (implValidTrack_any A n c lf lu l _ (hs.below q3 q3.size) hn)
  have HB := Lib.hid q3
  have HZ := Lib.hid q4
  have HC := Lib.hid (And.intro q0 (And.intro q1 q2))
  have HS := Lib.hid hs
  clear q0 q1 q2 q3 q4 hs
  cases hv : trackB l lf lu
  · rw [hv] at HV
    rw [onI_bad hv]
    go_enter Try.func26, Try.ntmps26
    go_wp2_with (go_at_call 7; refine HV.out.mono ?_; rintro e w1 ⟨rfl, hb⟩)
    go_ret
    exact ⟨rfl, HB.out.trans (hb.mono (by have := HZ.out; omega))⟩
  · rw [hv] at HV
    have hg := (trackB_iff.1 hv).good
    cases hx : inB x 0 (lenAll l)
    all_goals
      first | rw [onI_out hv hx] | rw [onI_in hv hx]
      go_enter Try.func26, Try.ntmps26
      go_wp2_with fail
      generalize w.alloc (.cells #[.slice A n c, .int .i64 lf, .int .i64 lu] 26) = W0 at *
      refine HV.out.mono ?_
      rintro e w1 ⟨rfl, hb⟩
      obtain ⟨q0, q1, q2⟩ := HC.out
      have hz : w.heap.size < W0.heap.size := by have := HZ.out; omega
      have r0 := (hb.cell (p := ⟨w.heap.size, 0, none⟩) hz).trans q0
      have r1 := (hb.cell (p := ⟨w.heap.size, 1, none⟩) hz).trans q1
      have r2 := (hb.cell (p := ⟨w.heap.size, 2, none⟩) hz).trans q2
      have B1 : Hid (Below w.heap.size w w1) := HB.out.trans (hb.mono (by omega))
      have HL := Lib.hid (implLength_any A n c lf lu l w1 (HS.out.below B1.out B1.out.size) hg)
      clear q0 q1 q2 hz hb
      go_wp2_with (first | (go_at_call 21; refine HL.out.mono ?_; rintro e w2 ⟨rfl, hb2⟩) | (go_at_call 22; refine (within_any _ _ _ _).mono ?_; rintro e w' ⟨rfl, rfl⟩))
      go_ret
      exact ⟨rfl, B1.out.trans (hb2.mono B1.out.size)⟩
theorem specPlace_any (p : Nat) (A : Option Addr) (n c : Nat) (l : List (Int × Int)) (x : Int) (B : Nat) (w : World) (h0 : w.cell? ⟨p, 0, none⟩ = some (.slice A n c)) (hs : Secs w B A n l) (hg : GoodL l) :
    Calls Try.prog 38 #[.pointer (some ⟨p, 0, none⟩), .int .i64 x] w fun e w' => e = .returned (.bool (inB x 0 (lenAll l))) ∧ w = w' := by
  have HL := Lib.hid (specLength_any p A n c l B w h0 hs hg)
  clear hs hg
  go_enter Try.func38, Try.ntmps38
  go_wp2_with (first | (go_at_call 24; refine HL.out.mono ?_; rintro e w' ⟨rfl, rfl⟩) | (go_at_call 36; refine (in_any _ _ _ _).mono ?_; rintro e w' ⟨rfl, rfl⟩))
  go_ret
  exact ⟨rfl, rfl⟩
theorem specAsk_any (p : Nat) (A : Option Addr) (n c : Nat) (lf lu : Int) (l : List (Int × Int)) (x : Int) (B : Nat) (w : World) (h0 : w.cell? ⟨p, 0, none⟩ = some (.slice A n c)) (h1 : w.cell? ⟨p, 1, none⟩ = some (.int .i64 lf)) (h2 : w.cell? ⟨p, 2, none⟩ = some (.int .i64 lu)) (hs : Secs w B A n l) (hn : n ≤ 9223372036854775807) :
    Calls Try.prog 31 #[.pointer (some ⟨p, 0, none⟩), .int .i64 x] w fun e w' => e = .returned (.int .i64 (onI l lf lu x)) ∧ ∃ m, w' = w.drewN m := by
  have HO := Lib.hid (specOk_any p A n c lf lu l B w h0 h1 h2 hs hn)
  have HP := Lib.hid (fun (m : Nat) hg => specPlace_any p A n c l x B (w.drewN m) h0 (hs.below (drew_below rfl _) (Nat.le_refl _)) hg)
  clear hs hn h0 h1 h2
  cases hv : trackB l lf lu
  · rw [hv] at HO
    rw [onI_bad hv]
    go_enter Try.func31, Try.ntmps31
    go_wp2_with (go_at_call 23; refine HO.out.mono ?_; rintro e w1 ⟨rfl, m, rfl⟩)
    go_ret
    exact ⟨rfl, _, rfl⟩
  · rw [hv] at HO
    have hg := (trackB_iff.1 hv).good
    cases hx : inB x 0 (lenAll l)
    all_goals
      first | rw [onI_out hv hx] | rw [onI_in hv hx]
      go_enter Try.func31, Try.ntmps31
      go_wp2_with (first | (go_at_call 23; refine HO.out.mono ?_; rintro e w1 ⟨rfl, m, rfl⟩) | (go_at_call 38; refine (HP.out _ hg).mono ?_; rintro e w1 ⟨rfl, rfl⟩))
      go_ret
      exact ⟨rfl, _, rfl⟩
end Go.Proofs.Ytcpppiafjlgimaa.TrkE
