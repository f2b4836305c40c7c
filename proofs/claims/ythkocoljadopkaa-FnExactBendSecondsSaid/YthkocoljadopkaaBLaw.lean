/- The laws' walks of the side of a bend. -/
import Derived.Test.YthkocoljadopkaaBndA
import Derived.Test.YthkocoljadopkaaBOpen
namespace Go.Proofs.Ythkocoljadopkaa.BLaw
open Go.RowKit Go.Proofs.Ythkocoljadopkaa.Plain Go.Proofs.Ythkocoljadopkaa.WalkA Go.Proofs.Ythkocoljadopkaa.WalkB Go.Proofs.Ythkocoljadopkaa.WalkC Go.Proofs.Ythkocoljadopkaa.WalkF Go.Proofs.Ythkocoljadopkaa.WalkH Go.Proofs.Ythkocoljadopkaa.BndA

def szB (n : Nat) : Int := if (n : Int) ≤ 1048576 then 1048576 - (n : Int) else -1
theorem szB_in {n : Nat} (h : (n : Int) ≤ 1048576) : szB n = 1048576 - (n : Int) := if_pos h
theorem szB_out {n : Nat} (h : ¬ (n : Int) ≤ 1048576) : szB n = -1 := if_neg h
theorem szBend_any (s : ByteArray) (r l c : Int) (hz : s.size ≤ 9223372036854775807) (w : World) :
    Calls Try.prog 12 #[.agg #[.string s, .int .i64 r, .int .i64 l, .int .i64 c], .int .i64 1048576] w fun e w' => e = .returned (.int .i64 (szB s.size)) ∧ Below w.heap.size w w' := by
  have hb : Hid (∀ o, Below w.heap.size w (w.alloc o)) := fun o => (Below.refl _ _).alloc (Nat.le_refl _) _
  by_cases h : (s.size : Int) ≤ 1048576
  · rw [szB_in h]
    go_enter Try.func12, Try.ntmps12
    go_wp2
    go_ret
    exact ⟨rfl, hb.out _⟩
  · rw [szB_out h]
    go_enter Try.func12, Try.ntmps12
    go_wp2
    go_ret
    exact ⟨rfl, hb.out _⟩
theorem toBend_any (s : ByteArray) (r l c : Int) (w : World) :
    Calls Try.prog 14 #[.agg #[.string s, .int .i64 r, .int .i64 l, .int .i64 c]] w fun e w' => e = .returned (.agg #[.string s, .int .i64 r, .int .i64 l, .int .i64 c]) ∧ Below w.heap.size w w' := by
  have hb : Hid (∀ o1 o2 o3, Below w.heap.size w (((w.alloc o1).alloc o2).alloc o3)) := fun o1 o2 o3 => (((Below.refl _ _).alloc (Nat.le_refl _) _).alloc (by simp) _).alloc (by simp; omega) _
  go_enter Try.func14, Try.ntmps14
  go_wp2
  refine bodyPost_ret (v := .agg #[.string s, .int .i64 r, .int .i64 l, .int .i64 c]) (by simp [results, Try.results14, go_sem]) rfl ⟨rfl, ?_⟩
  exact hb.out _ _ _

theorem sideOf (s : ByteArray) (r l c : Int) (hz : s.size ≤ 9223372036854775807) (x : Int) (_ : (Lit.int .i64 x).wf = true) (w : World) :
    Calls Try.prog 4 #[.agg #[.string s, .int .i64 r, .int .i64 l, .int .i64 c], .int .i64 x] w fun e w' => e = .returned (.bool true) ∧ Below w.heap.size w w' := by
  obtain ⟨q0, q1, q2, q3, q4, q5⟩ := boxed4 w 23 (.string s) (.int .i64 r) (.int .i64 l) (.int .i64 c)
  have HB := Lib.hid q4
  have hp : w.heap.size < (w.alloc (.cells #[.string s, .int .i64 r, .int .i64 l, .int .i64 c] 23)).heap.size := by omega
  clear q4 q5
  have HS := Lib.hid (fun W => szBend_any s r l c hz W)
  have HI := Lib.hid (fun W => implSideOf_any s r l c x hz W)
  have HR := Lib.hid (fun W => specSideOf_any s r l c x hz W)
  clear hz
  by_cases hsz : (s.size : Int) ≤ 1048576
  · rw [szB_in hsz] at HS
    go_enter Try.func4, Try.ntmps4
    go_wp2_with fail
    generalize w.alloc (.cells #[.string s, .int .i64 r, .int .i64 l, .int .i64 c] 23) = W0 at *
    have HB2 : Hid (∀ W, Below W0.heap.size W0 W → Below w.heap.size w W) := fun W hW => HB.out.trans (hW.mono (by omega))
    have b := Below.refl W0.heap.size W0
    refine (HS.out _).mono ?_
    rintro e w1 ⟨rfl, hb⟩
    have z := keepB hp q0 q1 q2 q3 b hb
    clear q0 q1 q2 q3 b hb
    obtain ⟨q0, q1, q2, q3, b⟩ := z
    go_wp2_with fail
    refine (toBend_any _ _ _ _ _).mono ?_
    rintro e w2 ⟨rfl, hb⟩
    have z := keepB hp q0 q1 q2 q3 b hb
    clear q0 q1 q2 q3 b hb
    obtain ⟨q0, q1, q2, q3, b⟩ := z
    go_wp2_with fail
    refine (HR.out _).mono ?_
    rintro e w3 ⟨rfl, hb⟩
    have z := keepB hp q0 q1 q2 q3 b hb
    clear q0 q1 q2 q3 b hb
    obtain ⟨q0, q1, q2, q3, b⟩ := z
    go_wp2_with fail
    refine (toBend_any _ _ _ _ _).mono ?_
    rintro e w4 ⟨rfl, hb⟩
    have z := keepB hp q0 q1 q2 q3 b hb
    clear q0 q1 q2 q3 b hb
    obtain ⟨q0, q1, q2, q3, b⟩ := z
    go_wp2_with fail
    refine (HI.out _).mono ?_
    rintro e w5 ⟨rfl, hb⟩
    have z := keepB hp q0 q1 q2 q3 b hb
    clear q0 q1 q2 q3 b hb
    obtain ⟨q0, q1, q2, q3, b⟩ := z
    go_wp2_with fail
    go_ret
    exact ⟨rfl, HB2.out _ b⟩
  · rw [szB_out hsz] at HS
    go_enter Try.func4, Try.ntmps4
    go_wp2_with fail
    generalize w.alloc (.cells #[.string s, .int .i64 r, .int .i64 l, .int .i64 c] 23) = W0 at *
    have HB2 : Hid (∀ W, Below W0.heap.size W0 W → Below w.heap.size w W) := fun W hW => HB.out.trans (hW.mono (by omega))
    have b := Below.refl W0.heap.size W0
    refine (HS.out _).mono ?_
    rintro e w1 ⟨rfl, hb⟩
    have z := keepB hp q0 q1 q2 q3 b hb
    clear q0 q1 q2 q3 b hb
    obtain ⟨q0, q1, q2, q3, b⟩ := z
    go_wp2_with fail
    go_ret
    exact ⟨rfl, HB2.out _ b⟩

end Go.Proofs.Ythkocoljadopkaa.BLaw
