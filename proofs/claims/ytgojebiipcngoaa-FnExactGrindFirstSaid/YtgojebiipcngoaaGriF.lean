/- The walk of the program's order of grinding. -/
import Derived.Test.YtgojebiipcngoaaGriE
namespace Go.Proofs.Ytgojebiipcngoaa.GriF
set_option maxRecDepth 100000
open Go.RowKit Go.Proofs.Ytgojebiipcngoaa.Plain Go.Proofs.Ytgojebiipcngoaa.WalkA Go.Proofs.Ytgojebiipcngoaa.WalkB Go.Proofs.Ytgojebiipcngoaa.WalkC Go.Proofs.Ytgojebiipcngoaa.WalkF Go.Proofs.Ytgojebiipcngoaa.WalkH Go.Proofs.Ytgojebiipcngoaa.BndA Go.Proofs.Ytgojebiipcngoaa.BLaw Go.Proofs.Ytgojebiipcngoaa.BndC Go.Proofs.Ytgojebiipcngoaa.BlsA Go.Proofs.Ytgojebiipcngoaa.BlsD Go.Proofs.Ytgojebiipcngoaa.GriI Go.Proofs.Ytgojebiipcngoaa.GriP Go.Proofs.Ytgojebiipcngoaa.GriA Go.Proofs.Ytgojebiipcngoaa.GriC Go.Proofs.Ytgojebiipcngoaa.GriD Go.Proofs.Ytgojebiipcngoaa.GriE

theorem ins_none (F : Value) (w : World) : Calls Try.prog 43 #[.slice none 0 0, .int .i64 0, .int .i64 0, F] w fun e w' => e = .returned (.tuple #[]) ∧ w' = w := by
  go_enter Try.func43, Try.ntmps43
  go_wp2
  go_loopg [8] 0 (fun g v wr => v = .int .i64 1 ∧ wr = w)
  case atStart => exact ⟨rfl, rfl⟩
  case round =>
    obtain ⟨rfl, rfl⟩ := hrel
    go_wp2
    go_end0
    exact ⟨rfl, rfl⟩
theorem stab_any (A : Option Addr) (c : Nat) (F : Value) (n : Nat) (hn : n ≤ 12) (w : World) (R : World → Prop) (h : Calls Try.prog 43 #[.slice A n c, .int .i64 0, .int .i64 n, F] w fun e w' => e = .returned (.tuple #[]) ∧ R w') :
    Calls Try.prog 25 #[.slice A n c, F] w fun e w' => e = .returned (.tuple #[]) ∧ R w' := by
  have HH := Lib.hid h
  clear h
  have h20 : ¬ (20 : Int) ≤ (n : Int) := by omega
  have h21 : ¬ (20 : Int) < (n : Int) := by omega
  have HS : Hid (Calls Try.prog 36 #[.slice A n c, .int .i64 n, F] w fun e w' => e = .returned (.tuple #[]) ∧ R w') := by
    show Calls _ _ _ _ _
    go_enter Try.func36, Try.ntmps36
    go_wp2
    go_loopg [7, 8] 0 (fun g u v wr => u = .int .i64 0 ∧ v = .int .i64 20 ∧ wr = w)
    case atStart => exact ⟨rfl, rfl, rfl⟩
    case round =>
      obtain ⟨rfl, rfl, rfl⟩ := hrel
      go_wp2_with fail
      refine HH.out.mono ?_
      rintro e w1 ⟨rfl, hr⟩
      have HR := Lib.hid hr
      clear hr
      go_wp2
      go_loopg [6] 0 (fun g v wr => v = .int .i64 20 ∧ wr = w1)
      case atStart => exact ⟨rfl, rfl⟩
      case round =>
        obtain ⟨rfl, rfl⟩ := hrel
        go_wp2
        go_end0
        exact ⟨rfl, HR.out⟩
  go_enter Try.func25, Try.ntmps25
  go_wp2_with fail
  refine HS.out.mono ?_
  rintro e w1 ⟨rfl, hr⟩
  have HR := Lib.hid hr
  clear hr
  go_wp2
  go_end0
  exact ⟨rfl, HR.out⟩
end Go.Proofs.Ytgojebiipcngoaa.GriF
