/- The walks of five more exact laws: each calls reference and program, which return the same, and so answers true. -/
import Derived.Test.YtmpjoigmjablpaaWalkG
import Derived.Test.YtmpjoigmjablpaaWalkI
import Derived.Test.YtmpjoigmjablpaaWalkJ
import Derived.OpenShut
namespace Go.Proofs.Ytmpjoigmjablpaa.LawB
open Go.RowKit Go.Proofs.Ytmpjoigmjablpaa.Plain Go.Proofs.Ytmpjoigmjablpaa.WalkA Go.Proofs.Ytmpjoigmjablpaa.WalkB Go.Proofs.Ytmpjoigmjablpaa.WalkC Go.Proofs.Ytmpjoigmjablpaa.WalkF Go.Proofs.Ytmpjoigmjablpaa.WalkG Go.Proofs.Ytmpjoigmjablpaa.WalkH Go.Proofs.Ytmpjoigmjablpaa.WalkI Go.Proofs.Ytmpjoigmjablpaa.WalkJ

theorem codeName (a0 : Int) (_ : (Lit.int .i64 a0).wf = true) (w : World) :
    Calls Try.prog 4 #[.int .i64 a0] w fun e w' => e = .returned (.bool true) ∧ Below w.heap.size w w' := by
  go_enter Try.func4, Try.ntmps4
  go_wp2_with (first | (go_at_call 17; refine (specCode_any _ _).mono ?_; rintro e w1 ⟨rfl, hb1⟩) | (go_at_call 18; refine (implCode_any _ _).mono ?_; rintro e w2 ⟨rfl, hb2⟩))
  go_ret
  exact ⟨rfl, hb1.trans (hb2.mono hb1.size)⟩
theorem isName (a0 : ByteArray) (h0 : a0.size ≤ maxLen) (w : World) :
    Calls Try.prog 8 #[.string a0] w fun e w' => e = .returned (.bool true) ∧ Below w.heap.size w w' := by
  unfold maxLen at h0
  by_cases hl : (1048576 : Int) < (a0.size : Int)
  · go_enter Try.func8, Try.ntmps8
    go_wp2
    go_ret
    exact ⟨rfl, Below.refl _ _⟩
  · go_enter Try.func8, Try.ntmps8
    go_wp2_with (first | (go_at_call 25; go_in) | (go_at_call 54; refine (specName_any _ h0 _).mono ?_; rintro e w' ⟨rfl, rfl⟩) | (go_at_call 26; refine (implName_any _ h0 _).mono ?_; rintro e w1 ⟨rfl, hb⟩))
    go_ret
    exact ⟨rfl, hb⟩
theorem crc16 (a0 : ByteArray) (h0 : a0.size ≤ maxLen) (a1 : Int) (_ : (Lit.int .i64 a1).wf = true) (w : World) :
    Calls Try.prog 10 #[.string a0, .int .i64 a1] w fun e w' => e = .returned (.bool true) ∧ Below w.heap.size w w' := by
  unfold maxLen at h0
  by_cases hl : (1048576 : Int) < (a0.size : Int)
  · go_enter Try.func10, Try.ntmps10
    go_wp2
    go_ret
    exact ⟨rfl, Below.refl _ _⟩
  · go_enter Try.func10, Try.ntmps10
    go_wp2_with (first | (go_at_call 29; refine (specCrc_any _ _ h0 _).mono ?_; rintro e w' ⟨rfl, rfl⟩) | (go_at_call 30; refine (implCrc_any _ _ h0 _).mono ?_; rintro e w1 ⟨rfl, hb⟩))
    go_ret
    exact ⟨rfl, hb⟩
theorem blend (a0 : Int) (_ : (Lit.int .i64 a0).wf = true) (a1 : Int) (_ : (Lit.int .i64 a1).wf = true) (a2 : Int) (_ : (Lit.int .i64 a2).wf = true) (a3 : Int) (_ : (Lit.int .i64 a3).wf = true) (a4 : Int) (_ : (Lit.int .i64 a4).wf = true) (w : World) :
    Calls Try.prog 14 #[.int .i64 a0, .int .i64 a1, .int .i64 a2, .int .i64 a3, .int .i64 a4] w fun e w' => e = .returned (.bool true) ∧ Below w.heap.size w w' := by
  go_enter Try.func14, Try.ntmps14
  go_wp2_with (first | (go_at_call 37; refine (specBlend_any _ _ _ _ _ _).mono ?_; rintro e w' ⟨rfl, rfl⟩) | (go_at_call 38; refine (implBlend_any _ _ _ _ _ _).mono ?_; rintro e w1 ⟨rfl, hb⟩))
  go_ret
  exact ⟨rfl, hb⟩
theorem leastRadius (a0 : Int) (_ : (Lit.int .i64 a0).wf = true) (a1 : Int) (_ : (Lit.int .i64 a1).wf = true) (a2 : Int) (_ : (Lit.int .i64 a2).wf = true) (w : World) :
    Calls Try.prog 16 #[.int .i64 a0, .int .i64 a1, .int .i64 a2] w fun e w' => e = .returned (.bool true) ∧ Below w.heap.size w w' := by
  obtain ⟨r, hr⟩ := turn_exists (radP a0 a1 a2) 10000 9990001
  have hr' : radB a0 a1 a2 = true → Turn (radP a0 a1 a2) 10000 10000000 r := fun _ => hr
  have HI := Lib.hid (fun w => implLeastRadius_any a0 a1 a2 r hr' w)
  have HS := Lib.hid (fun w => specLeastRadius_any a0 a1 a2 r hr' w)
  clear hr hr'
  have hv : ∃ x y : Int, radV (radB a0 a1 a2) r = .tuple #[.int .i64 x, .int .i64 y] := by
    unfold radV
    split
    · split
      · exact ⟨_, _, rfl⟩
      · exact ⟨_, _, rfl⟩
    · exact ⟨_, _, rfl⟩
  obtain ⟨x, y, hxy⟩ := hv
  rw [hxy] at HI HS
  clear hxy
  go_enter Try.func16, Try.ntmps16
  go_wp2_with (first | (go_at_call 41; refine (HS.out _).mono ?_; rintro e w' ⟨rfl, rfl⟩) | (go_at_call 42; refine (HI.out _).mono ?_; rintro e w1 ⟨rfl, hb⟩))
  go_ret
  exact ⟨rfl, hb⟩
end Go.Proofs.Ytmpjoigmjablpaa.LawB
