/- The sort of the order of grinding: its closure, the library's sort of few elements. -/
import Derived.Test.YtgojebiipcngoaaGriA
import Derived.Shelf.SlSortCmp.Insertion1
import Derived.Ground.SlsfProg
import Derived.Lib.OwnBridge
namespace Go.Proofs
open Go.Shelf
def Try.insL_ren : Go.Shelf.Ren := ⟨fun | 20 => 43 | n => n, fun | 24 => 2 | 22 => 24 | 3 => 3 | 25 => 46 | 4 => 4 | 0 => 0 | n => n, fun | n => n⟩
theorem Try.insL : Go.Proofs.SlLaysF.n20 Try.prog Try.insL_ren := {
  mixed := by kernel_rfl
  f20 := ⟨Try.f43.name, by decide, Try.func43.trans (congrArg some (by kernel_rfl))⟩
  t0 := Try.underlying0
  a0 := Try.isAgg0
  z0 := Try.sizeOf0
  v0 := Try.zeroValue0
  t3 := Try.underlying3
  a3 := Try.isAgg3
  z3 := Try.sizeOf3
  v3 := Try.zeroValue3
  t4 := Try.underlying4
  a4 := Try.isAgg4
  z4 := Try.sizeOf4
  v4 := Try.zeroValue4
  t22 := Try.underlying24
  a22 := Try.isAgg24
  z22 := Try.sizeOf24
  v22 := Try.zeroValue24
  a24 := Try.isAgg2
  z24 := Try.sizeOf2
  t25 := Try.underlying46
  a25 := Try.isAgg46
  z25 := Try.sizeOf46
  v25 := Try.zeroValue46 }
end Go.Proofs
namespace Go.Proofs.Ytgojebiipcngoaa.GriC
set_option maxRecDepth 100000
open Go.RowKit Go.Sort Go.Proofs.Ytgojebiipcngoaa.Plain Go.Proofs.Ytgojebiipcngoaa.WalkA Go.Proofs.Ytgojebiipcngoaa.WalkB Go.Proofs.Ytgojebiipcngoaa.WalkC Go.Proofs.Ytgojebiipcngoaa.WalkF Go.Proofs.Ytgojebiipcngoaa.WalkH Go.Proofs.Ytgojebiipcngoaa.BndA Go.Proofs.Ytgojebiipcngoaa.BLaw Go.Proofs.Ytgojebiipcngoaa.BndC Go.Proofs.Ytgojebiipcngoaa.BlsA Go.Proofs.Ytgojebiipcngoaa.BlsD Go.Proofs.Ytgojebiipcngoaa.GriI Go.Proofs.Ytgojebiipcngoaa.GriP Go.Proofs.Ytgojebiipcngoaa.GriA

theorem cmp64_any (x y : Int) (w : World) : Calls Try.prog 27 #[.int .i64 x, .int .i64 y] w fun e w' => e = .returned (.int .i64 (Lib.compareInt x y)) ∧ w' = w := by
  have HN : Hid (∀ z W, Calls Try.prog 37 #[.int .i64 z] W fun e w' => e = .returned (.bool false) ∧ w' = W) := fun z W => by
    go_enter Try.func37, Try.ntmps37
    go_wp2
    go_ret
    exact ⟨rfl, rfl⟩
  by_cases h1 : x < y
  · rw [show Lib.compareInt x y = -1 from if_pos h1]
    go_enter Try.func27, Try.ntmps27
    go_wp2_with (first | (refine (HN.out _ _).mono ?_; rintro e w1 ⟨rfl, rfl⟩))
    go_ret
    exact ⟨rfl, rfl⟩
  · by_cases h2 : y < x
    · rw [show Lib.compareInt x y = 1 by unfold Lib.compareInt; rw [if_neg h1, if_pos h2]]
      go_enter Try.func27, Try.ntmps27
      go_wp2_with (first | (refine (HN.out _ _).mono ?_; rintro e w1 ⟨rfl, rfl⟩))
      go_ret
      exact ⟨rfl, rfl⟩
    · rw [show Lib.compareInt x y = 0 by unfold Lib.compareInt; rw [if_neg h1, if_neg (by omega)]]
      go_enter Try.func27, Try.ntmps27
      go_wp2_with (first | (refine (HN.out _ _).mono ?_; rintro e w1 ⟨rfl, rfl⟩))
      go_ret
      exact ⟨rfl, rfl⟩
theorem wearG_any (s : ByteArray) (r l c : Int) (a m : Int) (hr : 1 ≤ r ∧ r ≤ 1000000000) (ha : 0 ≤ a ∧ a ≤ 1000000) (hm : 0 ≤ m ∧ m ≤ 100000) (w : World) :
    Calls Try.prog 24 #[.agg #[.string s, .int .i64 r, .int .i64 l, .int .i64 c], .int .i64 a, .int .i64 m] w fun e w' => e = .returned (.int .i64 (wearI r a m)) ∧ ∃ q os', w' = grow (w.drewN q) os' := by
  obtain ⟨b1, b2⟩ := wear_bd ha hm
  obtain ⟨r1, r2⟩ := hr
  unfold wearI
  go_enter Try.func24, Try.ntmps24
  go_wp2_with fail
  refine (nearest_any _ _ (by omega) (by omega) (by omega) _).mono ?_
  rintro e w1 ⟨rfl, n1, rfl⟩
  go_wp2
  go_ret
  exact ⟨rfl, n1, #[.cells #[.string s, .int .i64 r, .int .i64 l, .int .i64 c] 41], by rw [alloc_eq_grow]; rfl⟩

/-- What the closure reads: three boxes, the list. -/
structure Boxes (W : World) (g1 g2 g3 b off c : Nat) (bl : List Bnd) (a m : Int) : Prop where
  h1 : W.cell? ⟨g1, 0, none⟩ = some (.slice (some ⟨b, off, none⟩) bl.length c)
  h2 : W.cell? ⟨g2, 0, none⟩ = some (.int .i64 a)
  h3 : W.cell? ⟨g3, 0, none⟩ = some (.int .i64 m)
  l1 : g1 < W.heap.size
  l2 : g2 < W.heap.size
  l3 : g3 < W.heap.size
  lb : b < W.heap.size
  cells : ∀ i, i < bl.length → W.cell? ⟨b, off + i * 4, none⟩ = some (.string (bAt bl i).s) ∧ W.cell? ⟨b, off + i * 4 + 1, none⟩ = some (.int .i64 (bAt bl i).r) ∧ W.cell? ⟨b, off + i * 4 + 2, none⟩ = some (.int .i64 (bAt bl i).l) ∧ W.cell? ⟨b, off + i * 4 + 3, none⟩ = some (.int .i64 (bAt bl i).c)
end Go.Proofs.Ytgojebiipcngoaa.GriC
