/- The walks of clock, lap and date texts, program and reference. -/
import Derived.Test.YtlknncmnphbpkaaGreatDoorTxtB
import Derived.Test.YtlknncmnphbpkaaGreatDoorWalkA
namespace Go.Proofs.YtlknncmnphbpkaaGreatDoor.TxtC
open Go.RowKit Go.Proofs.YtlknncmnphbpkaaGreatDoor.Plain Go.Proofs.YtlknncmnphbpkaaGreatDoor.TxtA Go.Proofs.YtlknncmnphbpkaaGreatDoor.TxtB Go.Proofs.YtlknncmnphbpkaaGreatDoor.WalkA Go.Proofs.YtlknncmnphbpkaaGreatDoor.WalkC Go.Proofs.YtlknncmnphbpkaaGreatDoor.WalkD Go.Proofs.YtlknncmnphbpkaaGreatDoor.WalkE

def clockP (n : Int) : ByteArray := if inB n 0 1439 = true then (two (n / 60) ++ ⟨#[58]⟩) ++ two (n % 60) else ⟨#[]⟩
def lapP (n : Int) : ByteArray := if inB n 0 1000000000 = true then (dec (n / 60) ++ ⟨#[58]⟩) ++ two (n % 60) else ⟨#[]⟩
def dateP (y m d : Int) : ByteArray := (((dec y ++ ⟨#[45]⟩) ++ two m) ++ ⟨#[45]⟩) ++ two d
theorem wf64 {n : Int} (h : (Lit.int .i64 n).wf = true) : -9223372036854775808 ≤ n ∧ n ≤ 9223372036854775807 := by
  have hmin : IntKind.i64.min = -9223372036854775808 := rfl
  have hmax : IntKind.i64.max = 9223372036854775807 := rfl
  simp only [Lit.wf, Bool.and_eq_true, decide_eq_true_eq] at h
  omega

end Go.Proofs.YtlknncmnphbpkaaGreatDoor.TxtC
