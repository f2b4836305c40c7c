/- The walks of the last place apart and of the steepest section, program and reference. -/
import Derived.Test.YtcpppiafjlgimaaTrkG
namespace Go.Proofs.Ytcpppiafjlgimaa.TrkH
open Go.RowKit Go.Proofs.Ytcpppiafjlgimaa.Plain Go.Proofs.Ytcpppiafjlgimaa.TrkP Go.Proofs.Ytcpppiafjlgimaa.WalkA Go.Proofs.Ytcpppiafjlgimaa.TrkA Go.Proofs.Ytcpppiafjlgimaa.TrkB Go.Proofs.Ytcpppiafjlgimaa.TrkC Go.Proofs.Ytcpppiafjlgimaa.TrkD Go.Proofs.Ytcpppiafjlgimaa.TrkE Go.Proofs.Ytcpppiafjlgimaa.TrkF Go.Proofs.Ytcpppiafjlgimaa.TrkG

/-- The pair that LastApart returns. -/
def lastC (l : List (Int × Int)) (lf lu a : Int) : Int := if trackB l lf lu = true then (if inB a 0 3000000 = true then (if lenAll l < a then 3 else 0) else 2) else 1
def lastV (l : List (Int × Int)) (lf lu a : Int) : Int := if lastC l lf lu a = 0 then (lenAll l - a) / 2 else 0
theorem last_bad {l : List (Int × Int)} {lf lu a : Int} (h : trackB l lf lu = false) : lastC l lf lu a = 1 ∧ lastV l lf lu a = 0 := by simp [lastV, lastC, h]
theorem last_range {l : List (Int × Int)} {lf lu a : Int} (h : trackB l lf lu = true) (k : inB a 0 3000000 = false) : lastC l lf lu a = 2 ∧ lastV l lf lu a = 0 := by simp [lastV, lastC, h, k]
theorem last_none {l : List (Int × Int)} {lf lu a : Int} (h : trackB l lf lu = true) (k : inB a 0 3000000 = true) (m : lenAll l < a) : lastC l lf lu a = 3 ∧ lastV l lf lu a = 0 := by simp [lastV, lastC, h, k, m]
theorem last_ok {l : List (Int × Int)} {lf lu a : Int} (h : trackB l lf lu = true) (k : inB a 0 3000000 = true) (m : ¬ lenAll l < a) : lastC l lf lu a = 0 ∧ lastV l lf lu a = (lenAll l - a) / 2 := by simp [lastV, lastC, h, k, m]
/-- k is the first one with the greatest grade among the first m. -/
def IsBest (l : List (Int × Int)) (m k : Nat) : Prop := k < m ∧ (∀ j, j < m → secG l j ≤ secG l k) ∧ ∀ j, j < k → secG l j < secG l k
theorem IsBest.same {l : List (Int × Int)} {m k j : Nat} (h : IsBest l m k) (h' : IsBest l m j) : k = j := by
  have main : ∀ {k j : Nat}, IsBest l m k → IsBest l m j → ¬ k < j := by
    intro k j h h' hlt
    have a := h'.2.2 k hlt
    have b := h.2.1 j h'.1
    omega
  have := main h h'
  have := main h' h
  omega
theorem IsBest.start {l : List (Int × Int)} : IsBest l 1 0 := by
  refine ⟨by omega, fun j hj => ?_, fun j hj => by omega⟩
  have : j = 0 := by omega
  subst this
  omega
theorem IsBest.up {l : List (Int × Int)} {m k : Nat} (h : IsBest l m k) (hlt : secG l k < secG l m) : IsBest l (m + 1) m :=
  ⟨by omega, fun j hj => by
    by_cases e : j = m
    · subst e; omega
    · have := h.2.1 j (by omega); omega, fun j hj => by have := h.2.1 j hj; omega⟩
theorem IsBest.keep {l : List (Int × Int)} {m k : Nat} (h : IsBest l m k) (hle : ¬ secG l k < secG l m) : IsBest l (m + 1) k :=
  ⟨by have := h.1; omega, fun j hj => by
    by_cases e : j = m
    · subst e; omega
    · exact h.2.1 j (by omega), h.2.2⟩
def bestGo (l : List (Int × Int)) : Nat → Nat
  | 0 => 0
  | m + 1 => if secG l (bestGo l m) < secG l m then m else bestGo l m
theorem bestGo_is {l : List (Int × Int)} (m : Nat) (hm : 1 ≤ m) : IsBest l m (bestGo l m) := by
  induction m with
  | zero => omega
  | succ m ih =>
    by_cases h : m = 0
    · subst h
      have e : bestGo l (0 + 1) = 0 := by simp [bestGo]
      rw [e]
      exact IsBest.start
    · have := ih (by omega)
      unfold bestGo
      split
      · exact this.up ‹_›
      · exact this.keep ‹_›
def steepN (l : List (Int × Int)) : Nat := bestGo l l.length
end Go.Proofs.Ytcpppiafjlgimaa.TrkH
