/- The law's walk of RidesToGrind. -/
import Derived.Test.YthkocoljadopkaaBLaw
import Derived.Test.YthkocoljadopkaaBndG
namespace Go.Proofs.Ythkocoljadopkaa.BLawG
open Go.RowKit Go.Proofs.Ythkocoljadopkaa.Plain Go.Proofs.Ythkocoljadopkaa.WalkA Go.Proofs.Ythkocoljadopkaa.WalkB Go.Proofs.Ythkocoljadopkaa.WalkC Go.Proofs.Ythkocoljadopkaa.WalkF Go.Proofs.Ythkocoljadopkaa.WalkH Go.Proofs.Ythkocoljadopkaa.BndA Go.Proofs.Ythkocoljadopkaa.BLaw Go.Proofs.Ythkocoljadopkaa.BndC Go.Proofs.Ythkocoljadopkaa.BndE Go.Proofs.Ythkocoljadopkaa.BndG

theorem ridesToGrind (s : ByteArray) (r l c : Int) (hz : s.size ≤ 9223372036854775807) (x : Int) (_ : (Lit.int .i64 x).wf = true) (y : Int) (_ : (Lit.int .i64 y).wf = true) (w : World) :
    Calls Try.prog 7 #[.agg #[.string s, .int .i64 r, .int .i64 l, .int .i64 c], .int .i64 x, .int .i64 y] w fun e w' => e = .returned (.bool true) ∧ Below w.heap.size w w' := by
  obtain ⟨q0, q1, q2, q3, q4, q5⟩ := boxed4 w 23 (.string s) (.int .i64 r) (.int .i64 l) (.int .i64 c)
  have HB := Lib.hid q4
  have hp : w.heap.size < (w.alloc (.cells #[.string s, .int .i64 r, .int .i64 l, .int .i64 c] 23)).heap.size := by omega
  clear q4 q5
  have HS := Lib.hid (fun W => szBend_any s r l c hz W)
  have HI := Lib.hid (fun W => implRidesToGrind_any s r l c x y hz W)
  have HR := Lib.hid (fun W => specRidesToGrind_any s r l c x y hz W)
  clear hz
  by_cases hsz : (s.size : Int) ≤ 1048576
  · rw [szB_in hsz] at HS
    go_enter Try.func7, Try.ntmps7
    go_wp2_with fail
    generalize w.alloc (.cells #[.string s, .int .i64 r, .int .i64 l, .int .i64 c] 23) = W0 at *
    have HB2 : Hid (∀ W, Below W0.heap.size W0 W → Below w.heap.size w W) := fun W hW => HB.out.trans (hW.mono (by omega))
    have b := Below.refl W0.heap.size W0
    refine (HS.out _).mono ?_
    rintro e w1 ⟨rfl, hb⟩
    have z := keepB hp q0 q1 q2 q3 b hb
    clear q0 q1 q2 q3 b hb
    obtain ⟨q0, q1, q2, q3, b⟩ := z
    go_wp2_with fail
    refine (toBend_any _ _ _ _ _).mono ?_
    rintro e w2 ⟨rfl, hb⟩
    have z := keepB hp q0 q1 q2 q3 b hb
    clear q0 q1 q2 q3 b hb
    obtain ⟨q0, q1, q2, q3, b⟩ := z
    go_wp2_with fail
    refine (HR.out _).mono ?_
    rintro e w3 ⟨rfl, hb⟩
    have z := keepB hp q0 q1 q2 q3 b hb
    clear q0 q1 q2 q3 b hb
    obtain ⟨q0, q1, q2, q3, b⟩ := z
    go_wp2_with fail
    refine (toBend_any _ _ _ _ _).mono ?_
    rintro e w4 ⟨rfl, hb⟩
    have z := keepB hp q0 q1 q2 q3 b hb
    clear q0 q1 q2 q3 b hb
    obtain ⟨q0, q1, q2, q3, b⟩ := z
    go_wp2_with fail
    refine (HI.out _).mono ?_
    rintro e w5 ⟨rfl, hb⟩
    have z := keepB hp q0 q1 q2 q3 b hb
    clear q0 q1 q2 q3 b hb
    obtain ⟨q0, q1, q2, q3, b⟩ := z
    go_wp2_with fail
    go_ret
    exact ⟨rfl, HB2.out _ b⟩
  · rw [szB_out hsz] at HS
    go_enter Try.func7, Try.ntmps7
    go_wp2_with fail
    generalize w.alloc (.cells #[.string s, .int .i64 r, .int .i64 l, .int .i64 c] 23) = W0 at *
    have HB2 : Hid (∀ W, Below W0.heap.size W0 W → Below w.heap.size w W) := fun W hW => HB.out.trans (hW.mono (by omega))
    have b := Below.refl W0.heap.size W0
    refine (HS.out _).mono ?_
    rintro e w1 ⟨rfl, hb⟩
    have z := keepB hp q0 q1 q2 q3 b hb
    clear q0 q1 q2 q3 b hb
    obtain ⟨q0, q1, q2, q3, b⟩ := z
    go_wp2_with fail
    go_ret
    exact ⟨rfl, HB2.out _ b⟩

end Go.Proofs.Ythkocoljadopkaa.BLawG
