/- The sort of the order of grinding: its closure, the library's sort of few elements. -/
import Derived.Test.YtlknncmnphbpkaaGreatDoorGriA
import Derived.Shelf.SlSortCmp.Insertion1
import Derived.Ground.SlsfProg
import Derived.Lib.OwnBridge
namespace Go.Proofs
open Go.Shelf
def Tryz.insL_ren : Go.Shelf.Ren := ⟨fun | 20 => 71 | n => n, fun | 24 => 2 | 22 => 33 | 3 => 3 | 25 => 57 | 4 => 4 | 0 => 0 | n => n, fun | n => n⟩
theorem Tryz.insL : Go.Proofs.SlLaysF.n20 Tryz.prog Tryz.insL_ren := {
  mixed := by kernel_rfl
  f20 := ⟨Tryz.f71.name, by decide, Tryz.func71.trans (congrArg some (by kernel_rfl))⟩
  t0 := Tryz.underlying0
  a0 := Tryz.isAgg0
  z0 := Tryz.sizeOf0
  v0 := Tryz.zeroValue0
  t3 := Tryz.underlying3
  a3 := Tryz.isAgg3
  z3 := Tryz.sizeOf3
  v3 := Tryz.zeroValue3
  t4 := Tryz.underlying4
  a4 := Tryz.isAgg4
  z4 := Tryz.sizeOf4
  v4 := Tryz.zeroValue4
  t22 := Tryz.underlying33
  a22 := Tryz.isAgg33
  z22 := Tryz.sizeOf33
  v22 := Tryz.zeroValue33
  a24 := Tryz.isAgg2
  z24 := Tryz.sizeOf2
  t25 := Tryz.underlying57
  a25 := Tryz.isAgg57
  z25 := Tryz.sizeOf57
  v25 := Tryz.zeroValue57 }
end Go.Proofs
namespace Go.Proofs.YtlknncmnphbpkaaGreatDoor.GriC
set_option maxRecDepth 100000
open Go.RowKit Go.Sort Go.Proofs.YtlknncmnphbpkaaGreatDoor.Plain Go.Proofs.YtlknncmnphbpkaaGreatDoor.WalkA Go.Proofs.YtlknncmnphbpkaaGreatDoor.WalkB Go.Proofs.YtlknncmnphbpkaaGreatDoor.WalkC Go.Proofs.YtlknncmnphbpkaaGreatDoor.WalkF Go.Proofs.YtlknncmnphbpkaaGreatDoor.WalkH Go.Proofs.YtlknncmnphbpkaaGreatDoor.BndA Go.Proofs.YtlknncmnphbpkaaGreatDoor.BLaw Go.Proofs.YtlknncmnphbpkaaGreatDoor.BndC Go.Proofs.YtlknncmnphbpkaaGreatDoor.BlsA Go.Proofs.YtlknncmnphbpkaaGreatDoor.BlsD Go.Proofs.YtlknncmnphbpkaaGreatDoor.GriI Go.Proofs.YtlknncmnphbpkaaGreatDoor.GriP Go.Proofs.YtlknncmnphbpkaaGreatDoor.GriA

theorem cmp64_any (x y : Int) (w : World) : Calls Tryz.prog 33 #[.int .i64 x, .int .i64 y] w fun e w' => e = .returned (.int .i64 (Lib.compareInt x y)) ∧ w' = w := by
  have HN : Hid (∀ z W, Calls Tryz.prog 54 #[.int .i64 z] W fun e w' => e = .returned (.bool false) ∧ w' = W) := fun z W => by
    go_enter Tryz.func54, Tryz.ntmps54
    go_wp2
    go_ret
    exact ⟨rfl, rfl⟩
  by_cases h1 : x < y
  · rw [show Lib.compareInt x y = -1 from if_pos h1]
    go_enter Tryz.func33, Tryz.ntmps33
    go_wp2_with (first | (refine (HN.out _ _).mono ?_; rintro e w1 ⟨rfl, rfl⟩))
    go_ret
    exact ⟨rfl, rfl⟩
  · by_cases h2 : y < x
    · rw [show Lib.compareInt x y = 1 by unfold Lib.compareInt; rw [if_neg h1, if_pos h2]]
      go_enter Tryz.func33, Tryz.ntmps33
      go_wp2_with (first | (refine (HN.out _ _).mono ?_; rintro e w1 ⟨rfl, rfl⟩))
      go_ret
      exact ⟨rfl, rfl⟩
    · rw [show Lib.compareInt x y = 0 by unfold Lib.compareInt; rw [if_neg h1, if_neg (by omega)]]
      go_enter Tryz.func33, Tryz.ntmps33
      go_wp2_with (first | (refine (HN.out _ _).mono ?_; rintro e w1 ⟨rfl, rfl⟩))
      go_ret
      exact ⟨rfl, rfl⟩
theorem wearG_any (s : ByteArray) (r l c : Int) (a m : Int) (hr : 1 ≤ r ∧ r ≤ 1000000000) (ha : 0 ≤ a ∧ a ≤ 1000000) (hm : 0 ≤ m ∧ m ≤ 100000) (w : World) :
    Calls Tryz.prog 27 #[.agg #[.string s, .int .i64 r, .int .i64 l, .int .i64 c], .int .i64 a, .int .i64 m] w fun e w' => e = .returned (.int .i64 (wearI r a m)) ∧ ∃ q os', w' = grow (w.drewN q) os' := by
  obtain ⟨b1, b2⟩ := wear_bd ha hm
  obtain ⟨r1, r2⟩ := hr
  unfold wearI
  go_enter Tryz.func27, Tryz.ntmps27
  go_wp2_with fail
  refine (nearest_any _ _ (by omega) (by omega) (by omega) _).mono ?_
  rintro e w1 ⟨rfl, n1, rfl⟩
  go_wp2
  go_ret
  exact ⟨rfl, n1, #[.cells #[.string s, .int .i64 r, .int .i64 l, .int .i64 c] 25], by rw [alloc_eq_grow]; rfl⟩

/-- What the closure reads: three boxes, the list. -/
structure Boxes (W : World) (g1 g2 g3 b off c : Nat) (bl : List Bnd) (a m : Int) : Prop where
  h1 : W.cell? ⟨g1, 0, none⟩ = some (.slice (some ⟨b, off, none⟩) bl.length c)
  h2 : W.cell? ⟨g2, 0, none⟩ = some (.int .i64 a)
  h3 : W.cell? ⟨g3, 0, none⟩ = some (.int .i64 m)
  l1 : g1 < W.heap.size
  l2 : g2 < W.heap.size
  l3 : g3 < W.heap.size
  lb : b < W.heap.size
  cells : ∀ i, i < bl.length → W.cell? ⟨b, off + i * 4, none⟩ = some (.string (bAt bl i).s) ∧ W.cell? ⟨b, off + i * 4 + 1, none⟩ = some (.int .i64 (bAt bl i).r) ∧ W.cell? ⟨b, off + i * 4 + 2, none⟩ = some (.int .i64 (bAt bl i).l) ∧ W.cell? ⟨b, off + i * 4 + 3, none⟩ = some (.int .i64 (bAt bl i).c)
end Go.Proofs.YtlknncmnphbpkaaGreatDoor.GriC
