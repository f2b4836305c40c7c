/- The laws' walks of the side of a bend. -/
import Derived.Test.YtgojebiipcngoaaBndA
import Derived.Test.YtgojebiipcngoaaBOpen
namespace Go.Proofs.Ytgojebiipcngoaa.BLaw
open Go.RowKit Go.Proofs.Ytgojebiipcngoaa.Plain Go.Proofs.Ytgojebiipcngoaa.WalkA Go.Proofs.Ytgojebiipcngoaa.WalkB Go.Proofs.Ytgojebiipcngoaa.WalkC Go.Proofs.Ytgojebiipcngoaa.WalkF Go.Proofs.Ytgojebiipcngoaa.WalkH Go.Proofs.Ytgojebiipcngoaa.BndA

def szB (n : Nat) : Int := if (n : Int) ≤ 1048576 then 1048576 - (n : Int) else -1
theorem szB_in {n : Nat} (h : (n : Int) ≤ 1048576) : szB n = 1048576 - (n : Int) := if_pos h
theorem szB_out {n : Nat} (h : ¬ (n : Int) ≤ 1048576) : szB n = -1 := if_neg h
theorem szBend_any (s : ByteArray) (r l c : Int) (hz : s.size ≤ 9223372036854775807) (w : World) :
    Calls Try.prog 13 #[.agg #[.string s, .int .i64 r, .int .i64 l, .int .i64 c], .int .i64 1048576] w fun e w' => e = .returned (.int .i64 (szB s.size)) ∧ Below w.heap.size w w' := by
  have hb : Hid (∀ o, Below w.heap.size w (w.alloc o)) := fun o => (Below.refl _ _).alloc (Nat.le_refl _) _
  by_cases h : (s.size : Int) ≤ 1048576
  · rw [szB_in h]
    go_enter Try.func13, Try.ntmps13
    go_wp2
    go_ret
    exact ⟨rfl, hb.out _⟩
  · rw [szB_out h]
    go_enter Try.func13, Try.ntmps13
    go_wp2
    go_ret
    exact ⟨rfl, hb.out _⟩
theorem toBend_any (s : ByteArray) (r l c : Int) (w : World) :
    Calls Try.prog 19 #[.agg #[.string s, .int .i64 r, .int .i64 l, .int .i64 c]] w fun e w' => e = .returned (.agg #[.string s, .int .i64 r, .int .i64 l, .int .i64 c]) ∧ Below w.heap.size w w' := by
  have hb : Hid (∀ o1 o2 o3, Below w.heap.size w (((w.alloc o1).alloc o2).alloc o3)) := fun o1 o2 o3 => (((Below.refl _ _).alloc (Nat.le_refl _) _).alloc (by simp) _).alloc (by simp; omega) _
  go_enter Try.func19, Try.ntmps19
  go_wp2
  refine bodyPost_ret (v := .agg #[.string s, .int .i64 r, .int .i64 l, .int .i64 c]) (by simp [results, Try.results19, go_sem]) rfl ⟨rfl, ?_⟩
  exact hb.out _ _ _

end Go.Proofs.Ytgojebiipcngoaa.BLaw
