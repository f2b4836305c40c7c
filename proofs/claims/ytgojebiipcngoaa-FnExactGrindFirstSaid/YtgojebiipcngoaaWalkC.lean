/- The walks of quotients with limits, lines, hours and work days: program and reference each return the same plain function. -/
import Derived.Test.YtgojebiipcngoaaWalkB
namespace Go.Proofs.Ytgojebiipcngoaa.WalkC
open Go.RowKit Go.Proofs.Ytgojebiipcngoaa.Plain Go.Proofs.Ytgojebiipcngoaa.WalkA Go.Proofs.Ytgojebiipcngoaa.WalkB

def divRoundI (a b : Int) : Int := if b = 0 then 0 else if inB a (-1000000000000) 1000000000000 = true then (if inB b (-1000000000000) 1000000000000 = true then divR a b else 0) else 0
theorem divRound_zero {a b : Int} (h : b = 0) : 0 = divRoundI a b := by unfold divRoundI; rw [if_pos h]
theorem divRound_a {a b : Int} (h : b ≠ 0) (ha : inB a (-1000000000000) 1000000000000 = false) : 0 = divRoundI a b := by unfold divRoundI; rw [if_neg h, if_neg (by simp [ha])]
theorem divRound_b {a b : Int} (h : b ≠ 0) (ha : inB a (-1000000000000) 1000000000000 = true) (hb : inB b (-1000000000000) 1000000000000 = false) : 0 = divRoundI a b := by unfold divRoundI; rw [if_neg h, if_pos ha, if_neg (by simp [hb])]
theorem divRound_ok {a b : Int} (h : b ≠ 0) (ha : inB a (-1000000000000) 1000000000000 = true) (hb : inB b (-1000000000000) 1000000000000 = true) : divR a b = divRoundI a b := by unfold divRoundI; rw [if_neg h, if_pos ha, if_pos hb]

theorem ret_two {a b c d : Int} (h : a = c) (k : b = d) : Ending.returned (.tuple #[.int .i64 a, .int .i64 b]) = .returned (.tuple #[.int .i64 c, .int .i64 d]) := by rw [h, k]
def codeI (c : Bool) : Int := if c = true then 0 else 2
def valI (c : Bool) (v : Int) : Int := if c = true then v else 0

def secB (a b : Int) : Bool := inB a 0 1000000000 && inB b 1 1000000000
def spanB (a b : Int) : Bool := inB a 0 36524 && inB b a 36525
theorem wd_last {a b : Int} {k : Nat} (h1 : a + k = b) : k = (b - a).toNat := by omega
end Go.Proofs.Ytgojebiipcngoaa.WalkC
