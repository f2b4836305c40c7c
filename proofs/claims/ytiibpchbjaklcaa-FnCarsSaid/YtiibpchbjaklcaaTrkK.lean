/- The walks of distances, of the loop's places and of the safe distance, program and reference. -/
import Derived.Test.YtiibpchbjaklcaaTrkJ
namespace Go.Proofs.Ytiibpchbjaklcaa.TrkK
open Go.RowKit Go.Proofs.Ytiibpchbjaklcaa.Plain Go.Proofs.Ytiibpchbjaklcaa.TrkP Go.Proofs.Ytiibpchbjaklcaa.WalkA Go.Proofs.Ytiibpchbjaklcaa.TrkA Go.Proofs.Ytiibpchbjaklcaa.TrkB Go.Proofs.Ytiibpchbjaklcaa.TrkC Go.Proofs.Ytiibpchbjaklcaa.TrkD Go.Proofs.Ytiibpchbjaklcaa.TrkE Go.Proofs.Ytiibpchbjaklcaa.TrkF Go.Proofs.Ytiibpchbjaklcaa.TrkG Go.Proofs.Ytiibpchbjaklcaa.TrkH Go.Proofs.Ytiibpchbjaklcaa.TrkI Go.Proofs.Ytiibpchbjaklcaa.TrkJ

def maxI (a b : Int) : Int := if b < a then a else b
theorem absT_any (n : Int) (hn : -4611686018427387904 ≤ n ∧ n ≤ 4611686018427387904) (w : World) : Calls Try.prog 42 #[.int .i64 n] w fun e w' => e = .returned (.int .i64 (absI n)) ∧ w = w' := by
  by_cases h1 : n < 0
  · have hb : -n = absI n := by unfold absI; rw [if_pos h1]
    have HB := Lib.hid hb
    clear hb
    go_enter Try.func42, Try.ntmps42
    go_wp2
    go_ret
    exact ⟨ret_int HB.out, rfl⟩
  · have hb : n = absI n := by unfold absI; rw [if_neg h1]
    have HB := Lib.hid hb
    clear hb
    go_enter Try.func42, Try.ntmps42
    go_wp2
    go_ret
    exact ⟨ret_int HB.out, rfl⟩
theorem absI_max (d : Int) : maxI d (-d) = absI d := by unfold maxI absI; split <;> split <;> omega
theorem apart_any (A : Option Addr) (n c : Nat) (lf lu : Int) (l : List (Int × Int)) (x : Int) (w : World) (hs : Secs w w.heap.size A n l) (hg : GoodL l) (hx : 0 ≤ x ∧ x ≤ 36000000) :
    Calls Try.prog 27 #[.agg #[.slice A n c, .int .i64 lf, .int .i64 lu], .int .i64 x] w fun e w' => e = .returned (.int .i64 (absI (lenAll l - 2 * x))) ∧ Below w.heap.size w w' := by
  have HB := Lib.hid ((Below.refl w.heap.size w).alloc (Nat.le_refl _) (.cells #[.slice A n c, .int .i64 lf, .int .i64 lu] 26))
  have HL := Lib.hid (implLength_any A n c lf lu l _ (hs.below HB.out HB.out.size) hg)
  obtain ⟨x1, x2⟩ := hx
  obtain ⟨b1, b2⟩ := lenAll_bds hg
  clear hs hg
  go_enter Try.func27, Try.ntmps27
  go_wp2_with (first | (go_at_call 26; refine HL.out.mono ?_; rintro e w1 ⟨rfl, hb⟩) | (go_at_call 42; refine (absT_any _ (by omega) _).mono ?_; rintro e w2 ⟨rfl, rfl⟩))
  go_ret
  exact ⟨rfl, HB.out.trans (hb.mono HB.out.size)⟩

/-! ### the loop -/
def lowL (l : List (Int × Int)) (lf lu : Int) : Int := maxI lf (lenAll l - lu)
def highL (l : List (Int × Int)) (lf lu : Int) : Int := minI lu (lenAll l - lf)
theorem keep3 {p : Nat} {W wc w2 : World} {v0 v1 v2 : Value} (hp : p < W.heap.size) (h0 : wc.cell? ⟨p, 0, none⟩ = some v0) (h1 : wc.cell? ⟨p, 1, none⟩ = some v1) (h2 : wc.cell? ⟨p, 2, none⟩ = some v2)
    (hb : Below W.heap.size W wc) (h : Below wc.heap.size wc w2) :
    w2.cell? ⟨p, 0, none⟩ = some v0 ∧ w2.cell? ⟨p, 1, none⟩ = some v1 ∧ w2.cell? ⟨p, 2, none⟩ = some v2 ∧ Below W.heap.size W w2 :=
  have hp' := Nat.lt_of_lt_of_le hp hb.size
  ⟨(h.cell (p := ⟨p, 0, none⟩) hp').trans h0, (h.cell (p := ⟨p, 1, none⟩) hp').trans h1, (h.cell (p := ⟨p, 2, none⟩) hp').trans h2, hb.trans (h.mono hb.size)⟩
theorem drew3 {p : Nat} {W wc : World} {v0 v1 v2 : Value} {m : Nat} (h0 : wc.cell? ⟨p, 0, none⟩ = some v0) (h1 : wc.cell? ⟨p, 1, none⟩ = some v1) (h2 : wc.cell? ⟨p, 2, none⟩ = some v2)
    (hb : Below W.heap.size W wc) :
    (wc.drewN m).cell? ⟨p, 0, none⟩ = some v0 ∧ (wc.drewN m).cell? ⟨p, 1, none⟩ = some v1 ∧ (wc.drewN m).cell? ⟨p, 2, none⟩ = some v2 ∧ Below W.heap.size W (wc.drewN m) :=
  ⟨h0, h1, h2, hb.trans (drew_below rfl _)⟩
theorem ret3_true {x y : Value} {b c : Int} (h : b ≤ c) : Ending.returned (.tuple #[x, y, .bool true]) = .returned (.tuple #[x, y, .bool (decide (b ≤ c))]) := by rw [decide_eq_true h]
theorem loopPlaces_core (A : Option Addr) (n c : Nat) (lf lu lo hi N : Int) (w : World) (hN : 0 ≤ lf ∧ lf ≤ lu ∧ lu ≤ N ∧ N ≤ 3000000)
    (HL : Hid (∀ W : World, Below w.heap.size w W → Calls Try.prog 26 #[.agg #[.slice A n c, .int .i64 lf, .int .i64 lu]] W fun e w' => e = .returned (.int .i64 N) ∧ Below W.heap.size W w'))
    (h1 : (lf < N - lu ∧ lo = N - lu) ∨ (¬ lf < N - lu ∧ lo = lf)) (h2 : (N - lf < lu ∧ hi = N - lf) ∨ (¬ N - lf < lu ∧ hi = lu)) :
    Calls Try.prog 31 #[.agg #[.slice A n c, .int .i64 lf, .int .i64 lu]] w fun e w' => e = .returned (.tuple #[.int .i64 lo, .int .i64 hi, .bool (decide (lo ≤ hi))]) ∧ Below w.heap.size w w' := by
  obtain ⟨q0, q1, q2, q3, q4⟩ := boxed w 26 (.slice A n c) (.int .i64 lf) (.int .i64 lu)
  obtain ⟨x1, b1, b2, b3⟩ := hN
  have HB := Lib.hid q3
  have hp : w.heap.size < (w.alloc (.cells #[.slice A n c, .int .i64 lf, .int .i64 lu] 26)).heap.size := by omega
  have k1 : IntKind.i64.wrap (N - lu) = N - lu := IntWalk.i64_in _ (by omega)
  have k2 : IntKind.i64.wrap (N - lf) = N - lf := IntWalk.i64_in _ (by omega)
  clear q3 q4
  rcases h1 with ⟨t1, e1⟩ | ⟨t1, e1⟩ <;> rcases h2 with ⟨t2, e2⟩ | ⟨t2, e2⟩
  all_goals
    rw [e1, e2]
    clear e1 e2
    go_enter Try.func31, Try.ntmps31
    go_wp2
    generalize w.alloc (.cells #[.slice A n c, .int .i64 lf, .int .i64 lu] 26) = W0 at *
    have HB2 : Hid (∀ W, Below W0.heap.size W0 W → Below w.heap.size w W) := fun W hW => HB.out.trans (hW.mono (by omega))
    go_region_held3 (fun w' => w'.cell? ⟨w.heap.size, 0, none⟩ = some (.slice A n c) ∧ w'.cell? ⟨w.heap.size, 1, none⟩ = some (.int .i64 lf) ∧ w'.cell? ⟨w.heap.size, 2, none⟩ = some (.int .i64 lu) ∧ Below W0.heap.size W0 w')
      (first | exact ⟨q0, q1, q2, (Below.refl _ _).drew⟩ | (go_split_ands; exact keep3 hp (by assumption) (by assumption) (by assumption) (by assumption) (by first | assumption | exact Below.refl _ _)))
      (first | (go_at_call 26; refine (HL.out _ ?_).mono ?_; (exact HB2.out _ (by go_split_ands; assumption)); rintro e w2 ⟨rfl, hb2⟩))
    go_wp2
    go_region_held3 (fun w' => w'.cell? ⟨w.heap.size, 0, none⟩ = some (.slice A n c) ∧ w'.cell? ⟨w.heap.size, 1, none⟩ = some (.int .i64 lf) ∧ w'.cell? ⟨w.heap.size, 2, none⟩ = some (.int .i64 lu) ∧ Below W0.heap.size W0 w')
      (first | (go_split_ands; exact drew3 (by assumption) (by assumption) (by assumption) (by assumption)) | (go_split_ands; exact keep3 hp (by assumption) (by assumption) (by assumption) (by assumption) (by first | assumption | exact Below.refl _ _)))
      (first | (go_at_call 26; refine (HL.out _ ?_).mono ?_; (exact HB2.out _ (by go_split_ands; assumption)); rintro e w2 ⟨rfl, hb2⟩))
    go_wp2
    go_ret3
    first | exact ⟨rfl, HB2.out _ (by go_split_ands; assumption)⟩ | exact ⟨ret3_true (by omega), HB2.out _ (by go_split_ands; assumption)⟩
theorem loopPlaces_any (A : Option Addr) (n c : Nat) (lf lu : Int) (l : List (Int × Int)) (w : World) (hs : Secs w w.heap.size A n l) (hv : Valid l lf lu) :
    Calls Try.prog 31 #[.agg #[.slice A n c, .int .i64 lf, .int .i64 lu]] w fun e w' => e = .returned (.tuple #[.int .i64 (lowL l lf lu), .int .i64 (highL l lf lu), .bool (decide (lowL l lf lu ≤ highL l lf lu))]) ∧ Below w.heap.size w w' := by
  refine loopPlaces_core A n c lf lu _ _ (lenAll l) w ⟨hv.from_.1, hv.until_.1, hv.until_.2, hv.len⟩ (fun W hW => implLength_any A n c lf lu l W (hs.below hW hW.size) hv.good) ?_ ?_
  · unfold lowL maxI
    split <;> omega
  · unfold highL minI
    split <;> omega
end Go.Proofs.Ytiibpchbjaklcaa.TrkK
