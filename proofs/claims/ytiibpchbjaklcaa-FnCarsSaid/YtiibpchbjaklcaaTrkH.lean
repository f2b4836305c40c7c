/- The walks of the last place apart and of the steepest section, program and reference. -/
import Derived.Test.YtiibpchbjaklcaaTrkG
namespace Go.Proofs.Ytiibpchbjaklcaa.TrkH
open Go.RowKit Go.Proofs.Ytiibpchbjaklcaa.Plain Go.Proofs.Ytiibpchbjaklcaa.TrkP Go.Proofs.Ytiibpchbjaklcaa.WalkA Go.Proofs.Ytiibpchbjaklcaa.TrkA Go.Proofs.Ytiibpchbjaklcaa.TrkB Go.Proofs.Ytiibpchbjaklcaa.TrkC Go.Proofs.Ytiibpchbjaklcaa.TrkD Go.Proofs.Ytiibpchbjaklcaa.TrkE Go.Proofs.Ytiibpchbjaklcaa.TrkF Go.Proofs.Ytiibpchbjaklcaa.TrkG

/-- The pair that LastApart returns. -/
def lastC (l : List (Int × Int)) (lf lu a : Int) : Int := if trackB l lf lu = true then (if inB a 0 3000000 = true then (if lenAll l < a then 3 else 0) else 2) else 1
def lastV (l : List (Int × Int)) (lf lu a : Int) : Int := if lastC l lf lu a = 0 then (lenAll l - a) / 2 else 0
theorem last_bad {l : List (Int × Int)} {lf lu a : Int} (h : trackB l lf lu = false) : lastC l lf lu a = 1 ∧ lastV l lf lu a = 0 := by simp [lastV, lastC, h]
theorem last_range {l : List (Int × Int)} {lf lu a : Int} (h : trackB l lf lu = true) (k : inB a 0 3000000 = false) : lastC l lf lu a = 2 ∧ lastV l lf lu a = 0 := by simp [lastV, lastC, h, k]
theorem last_none {l : List (Int × Int)} {lf lu a : Int} (h : trackB l lf lu = true) (k : inB a 0 3000000 = true) (m : lenAll l < a) : lastC l lf lu a = 3 ∧ lastV l lf lu a = 0 := by simp [lastV, lastC, h, k, m]
theorem last_ok {l : List (Int × Int)} {lf lu a : Int} (h : trackB l lf lu = true) (k : inB a 0 3000000 = true) (m : ¬ lenAll l < a) : lastC l lf lu a = 0 ∧ lastV l lf lu a = (lenAll l - a) / 2 := by simp [lastV, lastC, h, k, m]
theorem implLastApart_any (A : Option Addr) (n c : Nat) (lf lu : Int) (l : List (Int × Int)) (x : Int) (w : World) (hs : Secs w w.heap.size A n l) (hn : n ≤ 1048576) :
    Calls Try.prog 20 #[.agg #[.slice A n c, .int .i64 lf, .int .i64 lu], .int .i64 x] w fun e w' => e = .returned (.tuple #[.int .i64 (lastV l lf lu x), .int .i64 (lastC l lf lu x)]) ∧ Below w.heap.size w w' := by
  obtain ⟨q0, q1, q2, q3, q4⟩ := boxed w 26 (.slice A n c) (.int .i64 lf) (.int .i64 lu)
  have HV := Lib.hid (implValidTrack_any A n c lf lu l _ (hs.below q3 q3.size) hn)
  have HB := Lib.hid q3
  have HZ := Lib.hid q4
  have HC := Lib.hid (And.intro q0 (And.intro q1 q2))
  have HS := Lib.hid hs
  clear q0 q1 q2 q3 q4 hs
  cases hv : trackB l lf lu
  · obtain ⟨e1, e2⟩ := last_bad (a := x) hv
    rw [hv] at HV
    rw [e1, e2]
    clear e1 e2 hv
    go_enter Try.func20, Try.ntmps20
    go_wp2_with (go_at_call 30; refine HV.out.mono ?_; rintro e w1 ⟨rfl, hb⟩)
    go_ret2
    exact ⟨rfl, HB.out.trans (hb.mono (by have := HZ.out; omega))⟩
  have hg := (trackB_iff.1 hv).good
  have hbb := lenAll_bds hg
  obtain ⟨b1, b2⟩ := hbb
  rw [hv] at HV
  cases hx : inB x 0 3000000
  · obtain ⟨e1, e2⟩ := last_range hv hx
    rw [e1, e2]
    clear e1 e2 hv
    go_enter Try.func20, Try.ntmps20
    go_wp2_with (first | (go_at_call 30; refine HV.out.mono ?_; rintro e w1 ⟨rfl, hb⟩) | (go_at_call 34; refine (within_any _ _ _ _).mono ?_; rintro e w' ⟨rfl, rfl⟩))
    go_ret2
    exact ⟨rfl, HB.out.trans (hb.mono (by have := HZ.out; omega))⟩
  obtain ⟨x1, x2⟩ := inB_iff.1 hx
  have HL := Lib.hid (fun (W : World) (hW : Below w.heap.size w W) => implLength_any A n c lf lu l W (HS.out.below hW hW.size) hg)
  by_cases hm : lenAll l < x
  · obtain ⟨e1, e2⟩ := last_none hv hx hm
    rw [e1, e2]
    clear e1 e2 hv
    go_enter Try.func20, Try.ntmps20
    go_wp2_with fail
    generalize w.alloc (.cells #[.slice A n c, .int .i64 lf, .int .i64 lu] 26) = W0 at *
    refine HV.out.mono ?_
    rintro e w1 ⟨rfl, hb⟩
    obtain ⟨q0, q1, q2⟩ := HC.out
    have hz : w.heap.size < W0.heap.size := by have := HZ.out; omega
    have r0 := (hb.cell (p := ⟨w.heap.size, 0, none⟩) hz).trans q0
    have r1 := (hb.cell (p := ⟨w.heap.size, 1, none⟩) hz).trans q1
    have r2 := (hb.cell (p := ⟨w.heap.size, 2, none⟩) hz).trans q2
    have B1 : Hid (Below w.heap.size w w1) := HB.out.trans (hb.mono (by omega))
    clear q0 q1 q2 hz hb
    go_wp2_with (first | (go_at_call 34; refine (within_any _ _ _ _).mono ?_; rintro e w' ⟨rfl, rfl⟩) | (go_at_call 26; refine (HL.out _ B1.out).mono ?_; rintro e w2 ⟨rfl, hb2⟩))
    go_ret2
    exact ⟨rfl, B1.out.trans (hb2.mono B1.out.size)⟩
  · obtain ⟨e1, e2⟩ := last_ok hv hx hm
    rw [e1, e2]
    clear e1 e2 hv
    go_enter Try.func20, Try.ntmps20
    go_wp2_with fail
    generalize w.alloc (.cells #[.slice A n c, .int .i64 lf, .int .i64 lu] 26) = W0 at *
    refine HV.out.mono ?_
    rintro e w1 ⟨rfl, hb⟩
    obtain ⟨q0, q1, q2⟩ := HC.out
    have hz : w.heap.size < W0.heap.size := by have := HZ.out; omega
    have r0 := (hb.cell (p := ⟨w.heap.size, 0, none⟩) hz).trans q0
    have r1 := (hb.cell (p := ⟨w.heap.size, 1, none⟩) hz).trans q1
    have r2 := (hb.cell (p := ⟨w.heap.size, 2, none⟩) hz).trans q2
    have B1 : Hid (Below w.heap.size w w1) := HB.out.trans (hb.mono (by omega))
    have hz1 : w.heap.size < w1.heap.size := Nat.lt_of_lt_of_le hz hb.size
    clear q0 q1 q2 hz hb
    go_wp2_with fail
    refine (within_any _ _ _ _).mono ?_
    rintro e w' ⟨rfl, rfl⟩
    go_wp2_with fail
    refine (HL.out _ B1.out).mono ?_
    rintro e w2 ⟨rfl, hb2⟩
    have s0 := (hb2.cell (p := ⟨w.heap.size, 0, none⟩) hz1).trans r0
    have s1 := (hb2.cell (p := ⟨w.heap.size, 1, none⟩) hz1).trans r1
    have s2 := (hb2.cell (p := ⟨w.heap.size, 2, none⟩) hz1).trans r2
    have B2 : Hid (Below w.heap.size w w2) := B1.out.trans (hb2.mono B1.out.size)
    clear r0 r1 r2 hb2
    go_wp2_with fail
    refine (HL.out _ B2.out).mono ?_
    rintro e w3 ⟨rfl, hb3⟩
    go_wp2
    go_ret2
    exact ⟨rfl, B2.out.trans (hb3.mono B2.out.size)⟩

/-! ### the steepest section -/
/-- k is the first one with the greatest grade among the first m. -/
def IsBest (l : List (Int × Int)) (m k : Nat) : Prop := k < m ∧ (∀ j, j < m → secG l j ≤ secG l k) ∧ ∀ j, j < k → secG l j < secG l k
theorem IsBest.same {l : List (Int × Int)} {m k j : Nat} (h : IsBest l m k) (h' : IsBest l m j) : k = j := by
  have main : ∀ {k j : Nat}, IsBest l m k → IsBest l m j → ¬ k < j := by
    intro k j h h' hlt
    have a := h'.2.2 k hlt
    have b := h.2.1 j h'.1
    omega
  have := main h h'
  have := main h' h
  omega
theorem IsBest.start {l : List (Int × Int)} : IsBest l 1 0 := by
  refine ⟨by omega, fun j hj => ?_, fun j hj => by omega⟩
  have : j = 0 := by omega
  subst this
  omega
theorem IsBest.up {l : List (Int × Int)} {m k : Nat} (h : IsBest l m k) (hlt : secG l k < secG l m) : IsBest l (m + 1) m :=
  ⟨by omega, fun j hj => by
    by_cases e : j = m
    · subst e; omega
    · have := h.2.1 j (by omega); omega, fun j hj => by have := h.2.1 j hj; omega⟩
theorem IsBest.keep {l : List (Int × Int)} {m k : Nat} (h : IsBest l m k) (hle : ¬ secG l k < secG l m) : IsBest l (m + 1) k :=
  ⟨by have := h.1; omega, fun j hj => by
    by_cases e : j = m
    · subst e; omega
    · exact h.2.1 j (by omega), h.2.2⟩
def bestGo (l : List (Int × Int)) : Nat → Nat
  | 0 => 0
  | m + 1 => if secG l (bestGo l m) < secG l m then m else bestGo l m
theorem bestGo_is {l : List (Int × Int)} (m : Nat) (hm : 1 ≤ m) : IsBest l m (bestGo l m) := by
  induction m with
  | zero => omega
  | succ m ih =>
    by_cases h : m = 0
    · subst h
      have e : bestGo l (0 + 1) = 0 := by simp [bestGo]
      rw [e]
      exact IsBest.start
    · have := ih (by omega)
      unfold bestGo
      split
      · exact this.up ‹_›
      · exact this.keep ‹_›
def steepN (l : List (Int × Int)) : Nat := bestGo l l.length
end Go.Proofs.Ytiibpchbjaklcaa.TrkH
