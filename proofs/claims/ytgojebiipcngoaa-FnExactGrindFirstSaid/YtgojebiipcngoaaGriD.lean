/- The closure of the sort of the order of grinding. -/
import Derived.Test.YtgojebiipcngoaaGriC
import Derived.Shelf.SlSortCmp.QuietGrown
namespace Go.Proofs.Ytgojebiipcngoaa.GriD
set_option maxRecDepth 100000
open Go.RowKit Go.Sort Go.Proofs.Ytgojebiipcngoaa.Plain Go.Proofs.Ytgojebiipcngoaa.WalkA Go.Proofs.Ytgojebiipcngoaa.WalkB Go.Proofs.Ytgojebiipcngoaa.WalkC Go.Proofs.Ytgojebiipcngoaa.WalkF Go.Proofs.Ytgojebiipcngoaa.WalkH Go.Proofs.Ytgojebiipcngoaa.BndA Go.Proofs.Ytgojebiipcngoaa.BLaw Go.Proofs.Ytgojebiipcngoaa.BndC Go.Proofs.Ytgojebiipcngoaa.BlsA Go.Proofs.Ytgojebiipcngoaa.BlsD Go.Proofs.Ytgojebiipcngoaa.GriI Go.Proofs.Ytgojebiipcngoaa.GriP Go.Proofs.Ytgojebiipcngoaa.GriA Go.Proofs.Ytgojebiipcngoaa.GriC

set_option maxHeartbeats 4000000 in
theorem clo_any {W : World} {g1 g2 g3 b off c : Nat} {bl : List Bnd} {a m : Int} (hB : Boxes W g1 g2 g3 b off c bl a m) (hlb : listB bl = true) (ra : inB a 0 1000000 = true) (rm : inB m 0 100000 = true) (x y : Nat) (hx : x < bl.length) (hy : y < bl.length) :
    Calls Try.prog 26 #[.int .i64 x, .int .i64 y, .pointer (some ⟨g1, 0, none⟩), .pointer (some ⟨g2, 0, none⟩), .pointer (some ⟨g3, 0, none⟩)] W fun e w' => e = .returned (.int .i64 (Lib.compareInt (fW bl a m y) (fW bl a m x))) ∧ ∃ q os', w' = grow (W.drewN q) os' := by
  have mixed := Try.insL.mixed
  have HW : Hid (∀ k n os, k < bl.length → Calls Try.prog 24 #[.agg #[.string (bAt bl k).s, .int .i64 (bAt bl k).r, .int .i64 (bAt bl k).l, .int .i64 (bAt bl k).c], .int .i64 a, .int .i64 m] (grow (W.drewN n) os) fun e w' => e = .returned (.int .i64 (fW bl a m k)) ∧ ∃ p : GrownBy, w' = grow (W.drewN p.n) p.os) := fun k n os hk => by
    obtain ⟨b1, _, _⟩ := (bendB_iff.1 (listB_at hlb k hk)).2
    have h1 := wearG_any (bAt bl k).s (bAt bl k).r (bAt bl k).l (bAt bl k).c a m (by omega) (inB_iff.1 ra) (inB_iff.1 rm) (grow (W.drewN n) os)
    unfold fW
    exact Calls.grown_of h1
  have HC : Hid (∀ u v n os, Calls Try.prog 27 #[.int .i64 u, .int .i64 v] (grow (W.drewN n) os) fun e w' => e = .returned (.int .i64 (Lib.compareInt u v)) ∧ ∃ p : GrownBy, w' = grow (W.drewN p.n) p.os) := fun u v n os => (cmp64_any u v _).mono fun _ _ ⟨he, hw⟩ => ⟨he, ⟨n, os⟩, hw⟩
  have c1 := fun n os => cell_grown hB.l1 hB.h1 n os
  have c2 := fun n os => cell_grown hB.l2 hB.h2 n os
  have c3 := fun n os => cell_grown hB.l3 hB.h3 n os
  obtain ⟨e0, e1, e2, e3⟩ := hB.cells x hx
  obtain ⟨d0, d1, d2, d3⟩ := hB.cells y hy
  have x0 := fun n os => cell_grown (a := ⟨b, off + x * 4, none⟩) hB.lb e0 n os
  have x1 := fun n os => cell_grown (a := ⟨b, off + x * 4 + 1, none⟩) hB.lb e1 n os
  have x2 := fun n os => cell_grown (a := ⟨b, off + x * 4 + 2, none⟩) hB.lb e2 n os
  have x3 := fun n os => cell_grown (a := ⟨b, off + x * 4 + 3, none⟩) hB.lb e3 n os
  have y0 := fun n os => cell_grown (a := ⟨b, off + y * 4, none⟩) hB.lb d0 n os
  have y1 := fun n os => cell_grown (a := ⟨b, off + y * 4 + 1, none⟩) hB.lb d1 n os
  have y2 := fun n os => cell_grown (a := ⟨b, off + y * 4 + 2, none⟩) hB.lb d2 n os
  have y3 := fun n os => cell_grown (a := ⟨b, off + y * 4 + 3, none⟩) hB.lb d3 n os
  have hxi : (x : Int) < (bl.length : Int) := by omega
  have hyi : (y : Int) < (bl.length : Int) := by omega
  clear hB e0 e1 e2 e3 d0 d1 d2 d3
  have HX := Lib.hid hx
  have HY := Lib.hid hy
  have HWx := Lib.hid (fun n os => HW.out x n os hx)
  have HWy := Lib.hid (fun n os => HW.out y n os hy)
  clear hlb ra rm HW
  generalize fW bl a m x = fx at *
  generalize fW bl a m y = fy at *
  generalize bAt bl x = bx at *
  generalize bAt bl y = by' at *
  obtain ⟨xs, xr, xl, xc⟩ := bx
  obtain ⟨ys, yr, yl, yc⟩ := by'
  go_enter Try.func26, Try.ntmps26
  go_wp2_with fail
  refine wp_region_quiet_grown (by assumption) (by kernel_rfl) ?_
  iterate 6 (quiet_step (fail))
  quiet_step ((go_at_call 24; exact HWy.out _ _))
  iterate 6 (quiet_step (fail))
  quiet_step ((go_at_call 24; exact HWx.out _ _))
  quiet_step ((go_at_call 27; exact HC.out _ _ _ _))
  quiet_step (fail)
  refine wpQuiet_nil ?_
  intro _ hw'
  obtain ⟨⟨nq, osq⟩, hw''⟩ := hw'
  subst hw''
  go_wp2
  go_ret
  exact ⟨rfl, _, _, rfl⟩
end Go.Proofs.Ytgojebiipcngoaa.GriD
