/- The walks of quotients with limits, lines, hours and work days: program and reference each return the same plain function. -/
import Derived.Test.YtigonedjhjkmmaaDoorWalkB
namespace Go.Proofs.YtigonedjhjkmmaaDoor.WalkC
open Go.RowKit Go.Proofs.YtigonedjhjkmmaaDoor.Plain Go.Proofs.YtigonedjhjkmmaaDoor.WalkA Go.Proofs.YtigonedjhjkmmaaDoor.WalkB

theorem isValue_any (n : Int) (w : World) : Calls Tryd.prog 18 #[.int .i64 n] w fun e w' => e = .returned (.bool (inB n (-1000000000000) 1000000000000)) ∧ w = w' := by
  go_enter Tryd.func18, Tryd.ntmps18
  go_wp2_with (go_at_call 21; refine (within_any _ _ _ _).mono ?_; rintro e w' ⟨rfl, rfl⟩)
  go_ret
  exact ⟨rfl, rfl⟩
def divRoundI (a b : Int) : Int := if b = 0 then 0 else if inB a (-1000000000000) 1000000000000 = true then (if inB b (-1000000000000) 1000000000000 = true then divR a b else 0) else 0
theorem divRound_zero {a b : Int} (h : b = 0) : 0 = divRoundI a b := by unfold divRoundI; rw [if_pos h]
theorem divRound_a {a b : Int} (h : b ≠ 0) (ha : inB a (-1000000000000) 1000000000000 = false) : 0 = divRoundI a b := by unfold divRoundI; rw [if_neg h, if_neg (by simp [ha])]
theorem divRound_b {a b : Int} (h : b ≠ 0) (ha : inB a (-1000000000000) 1000000000000 = true) (hb : inB b (-1000000000000) 1000000000000 = false) : 0 = divRoundI a b := by unfold divRoundI; rw [if_neg h, if_pos ha, if_neg (by simp [hb])]
theorem divRound_ok {a b : Int} (h : b ≠ 0) (ha : inB a (-1000000000000) 1000000000000 = true) (hb : inB b (-1000000000000) 1000000000000 = true) : divR a b = divRoundI a b := by unfold divRoundI; rw [if_neg h, if_pos ha, if_pos hb]

theorem implDivRound_any (a b : Int) (w : World) : Calls Tryd.prog 7 #[.int .i64 a, .int .i64 b] w fun e w' => e = .returned (.int .i64 (divRoundI a b)) ∧ Drew w w' := by
  by_cases h0 : b = 0
  · have HE := Lib.hid (divRound_zero (a := a) h0)
    subst h0
    go_enter Tryd.func7, Tryd.ntmps7
    go_wp2
    go_ret
    exact ⟨ret_int HE.out, Drew.refl _⟩
  have hz : (b == 0) = false := by simpa using h0
  cases ha : inB a (-1000000000000) 1000000000000
  · have HE := Lib.hid (divRound_a h0 ha)
    clear h0
    go_enter Tryd.func7, Tryd.ntmps7
    go_wp2_with (go_at_call 18; refine (isValue_any _ _).mono ?_; rintro e w' ⟨rfl, rfl⟩)
    go_ret
    exact ⟨ret_int HE.out, Drew.refl _⟩
  cases hb : inB b (-1000000000000) 1000000000000
  · have HE := Lib.hid (divRound_b h0 ha hb)
    clear h0
    go_enter Tryd.func7, Tryd.ntmps7
    go_wp2_with (go_at_call 18; refine (isValue_any _ _).mono ?_; rintro e w' ⟨rfl, rfl⟩)
    go_ret
    exact ⟨ret_int HE.out, Drew.refl _⟩
  · have HE := Lib.hid (divRound_ok h0 ha hb)
    have HN := fun w => nearest_any a b (by have := inB_iff.1 ha; omega) (by have := inB_iff.1 hb; omega) h0 w
    clear h0
    go_enter Tryd.func7, Tryd.ntmps7
    go_wp2_with (first | (go_at_call 18; refine (isValue_any _ _).mono ?_; rintro e w' ⟨rfl, rfl⟩) | (go_at_call 19; refine (HN _).mono ?_; rintro e w' ⟨rfl, hd⟩))
    go_ret
    exact ⟨ret_int HE.out, hd⟩

theorem ret_two {a b c d : Int} (h : a = c) (k : b = d) : Ending.returned (.tuple #[.int .i64 a, .int .i64 b]) = .returned (.tuple #[.int .i64 c, .int .i64 d]) := by rw [h, k]
def codeI (c : Bool) : Int := if c = true then 0 else 2
def valI (c : Bool) (v : Int) : Int := if c = true then v else 0

def secB (a b : Int) : Bool := inB a 0 1000000000 && inB b 1 1000000000
def spanB (a b : Int) : Bool := inB a 0 36524 && inB b a 36525
theorem wd_last {a b : Int} {k : Nat} (h1 : a + k = b) : k = (b - a).toNat := by omega
end Go.Proofs.YtigonedjhjkmmaaDoor.WalkC
