/- The walks of the steepest section and of the place of a height, program and reference. -/
import Derived.Test.YtcpppiafjlgimaaTrkH
import Derived.Test.YtcpppiafjlgimaaLeast
namespace Go.Proofs.Ytcpppiafjlgimaa.TrkI
open Go.RowKit Go.Proofs.Ytcpppiafjlgimaa.Plain Go.Proofs.Ytcpppiafjlgimaa.TrkP Go.Proofs.Ytcpppiafjlgimaa.WalkA Go.Proofs.Ytcpppiafjlgimaa.TrkA Go.Proofs.Ytcpppiafjlgimaa.TrkB Go.Proofs.Ytcpppiafjlgimaa.TrkC Go.Proofs.Ytcpppiafjlgimaa.TrkD Go.Proofs.Ytcpppiafjlgimaa.TrkE Go.Proofs.Ytcpppiafjlgimaa.TrkF Go.Proofs.Ytcpppiafjlgimaa.TrkG Go.Proofs.Ytcpppiafjlgimaa.TrkH Go.Proofs.Ytcpppiafjlgimaa.Least

theorem ret_pair {a b c d : Int} (h : a = c) (k : b = d) : Ending.returned (.tuple #[.int .i64 a, .int .i64 b]) = .returned (.tuple #[.int .i64 c, .int .i64 d]) := by rw [h, k]
theorem implSteepestOf_any (A : Option Addr) (n c : Nat) (lf lu : Int) (l : List (Int × Int)) (w : World) (hs : Secs w w.heap.size A n l) (hn : n ≤ 1048576) :
    Calls Try.prog 18 #[.agg #[.slice A n c, .int .i64 lf, .int .i64 lu]] w fun e w' => e = .returned (.tuple #[.int .i64 (vI (trackB l lf lu) (steepN l)), .int .i64 (cI (trackB l lf lu))]) ∧ Below w.heap.size w w' := by
  obtain ⟨q0, q1, q2, q3, q4⟩ := boxed w 26 (.slice A n c) (.int .i64 lf) (.int .i64 lu)
  have HV := Lib.hid (implValidTrack_any A n c lf lu l _ (hs.below q3 q3.size) hn)
  have HB := Lib.hid q3
  have HZ := Lib.hid q4
  have HC := Lib.hid (And.intro q0 (And.intro q1 q2))
  have HS := Lib.hid hs
  have hl := hs.1
  subst hl
  clear q0 q1 q2 q3 q4 hs
  cases hv : trackB l lf lu
  · rw [hv] at HV
    go_enter Try.func18, Try.ntmps18
    go_wp2_with (go_at_call 7; refine HV.out.mono ?_; rintro e w1 ⟨rfl, hb⟩)
    go_ret2
    exact ⟨rfl, HB.out.trans (hb.mono (by have := HZ.out; omega))⟩
  · rw [hv] at HV
    have hval := trackB_iff.1 hv
    have h12 := hval.good.1
    have hpos := hval.some_
    clear hval
    go_enter Try.func18, Try.ntmps18
    go_wp2_with fail
    generalize w.alloc (.cells #[.slice A l.length c, .int .i64 lf, .int .i64 lu] 26) = W0 at *
    refine HV.out.mono ?_
    rintro e w1 ⟨rfl, hb⟩
    have B1 : Hid (Below (w.heap.size + 1) W0 w1) := hb.mono (by have := HZ.out; omega)
    have r0 := (B1.out.cell (p := ⟨w.heap.size, 0, none⟩) (show w.heap.size < _ by omega)).trans HC.out.1
    clear hb
    go_wp2
    go_loopw [4, 13] (fun s i wr => ∃ k b : Nat, k ≤ l.length ∧ b < l.length ∧ i = .int .i64 k ∧ s = .int .i64 b ∧ Hid (0 < k → IsBest l k b) ∧ Hid (k = 0 → b = 0) ∧ Below (w.heap.size + 1) W0 wr) (fun _ i _ => l.length - (intOf i).toNat)
    case atStart => exact ⟨0, 0, by omega, by omega, rfl, rfl, (fun h => by omega), (fun _ => rfl), B1.out⟩
    case round =>
      obtain ⟨k, b, hk, hbl, rfl, rfl, hbest, hb0, hbr⟩ := hrel
      have HBR := Lib.hid hbr
      have r0 := (hbr.cell (p := ⟨w.heap.size, 0, none⟩) (show w.heap.size < _ by omega)).trans HC.out.1
      have HBB : Hid (Below w.heap.size w wr) := HB.out.trans (hbr.mono (by omega))
      have hwr : w.heap.size + 1 ≤ wr.heap.size := by have := hbr.size; have := HZ.out; omega
      clear hbr
      by_cases hlt : k < l.length
      · obtain ⟨bb, off, rfl, hbbl, hc⟩ := (HS.out.below HBB.out HBB.out.size).2 (by omega)
        obtain ⟨c1, c2⟩ := hc k hlt
        obtain ⟨d1, d2⟩ := hc b hbl
        clear hc
        have i0 : (0 : Int) ≤ (k : Int) := by omega
        have i1 : (k : Int) < (l.length : Int) := by omega
        have j0 : (0 : Int) ≤ (b : Int) := by omega
        have j1 : (b : Int) < (l.length : Int) := by omega
        have hna : ∀ (p : Addr), p.block < wr.heap.size → (wr.alloc (.cells #[.int .i64 (secL l k), .int .i64 (secG l k)] 37)).cell? p = wr.cell? p := fun p hp => World.cell?_alloc_lt wr _ p hp
        have s0 := (hna ⟨w.heap.size, 0, none⟩ (show w.heap.size < wr.heap.size by omega)).trans r0
        have s2 := (hna ⟨bb, off + b * 2 + 1, none⟩ hbbl).trans d2
        have s3 : (wr.alloc (.cells #[.int .i64 (secL l k), .int .i64 (secG l k)] 37)).cell? ⟨wr.heap.size, 1, none⟩ = some (.int .i64 (secG l k)) := (RowAt.new wr 37 #[.int .i64 (secL l k), .int .i64 (secG l k)]).cell 1
        have HX := Lib.hid (And.intro s0 (And.intro s2 s3))
        have HXB := Lib.hid (HBR.out.alloc (by omega) (.cells #[.int .i64 (secL l k), .int .i64 (secG l k)] 37))
        clear hna s0 s2 s3
        by_cases hgt : secG l b < secG l k
        · have HU : Hid (IsBest l (k + 1) k) := by
            by_cases e : k = 0
            · have := hb0.out e; subst e; subst this; omega
            · exact (hbest.out (by omega)).up hgt
          go_wp2
          generalize wr.alloc (.cells #[.int .i64 (secL l k), .int .i64 (secG l k)] 37) = W2 at *
          obtain ⟨s0, s2, s3⟩ := HX.out
          go_quiet (fail)
          go_wp2
          go_roundw
          case rel => exact ⟨k + 1, k, by omega, by omega, by go_num, rfl, (fun _ => HU.out), (fun h => by omega), HXB.out.trans (drew_below rfl _)⟩
          case measure => simp [intOf]; omega
        · have HU : Hid (IsBest l (k + 1) b) := by
            by_cases e : k = 0
            · have := hb0.out e; subst e; subst this; exact IsBest.start
            · exact (hbest.out (by omega)).keep hgt
          go_wp2
          generalize wr.alloc (.cells #[.int .i64 (secL l k), .int .i64 (secG l k)] 37) = W2 at *
          obtain ⟨s0, s2, s3⟩ := HX.out
          go_quiet (fail)
          go_wp2
          go_roundw
          case rel => exact ⟨k + 1, b, by omega, by omega, by go_num, rfl, (fun _ => HU.out), (fun h => by omega), HXB.out.trans (drew_below rfl _)⟩
          case measure => simp [intOf]; omega
      · have e : k = l.length := by omega
        subst e
        have HE := Lib.hid ((hbest.out (by omega)).same (bestGo_is l.length hpos))
        go_wp2
        go_ret2
        exact ⟨ret_pair (by rw [HE.out]; rfl) rfl, HBB.out⟩
end Go.Proofs.Ytcpppiafjlgimaa.TrkI
