/- An argument that is a bend is opened: its name and its three numbers. -/
import Derived.Test.YtlknncmnphbpkaaGreatDoorBndA
import Derived.Lib.SmallJoins
import Derived.ChangeArms
namespace Go.Proofs.YtlknncmnphbpkaaGreatDoor.BOpen
open Go.ChangeShapes Go.WideShapes Go.RowKit Go.Deep Go.Joins
section
variable {H : Type} {enc : TypeId × Value → H} {P : Program} {w : World} {base : Nat} {spare : Nat → Bool} {held : Bool}
theorem int_cell {ti : TypeId} {k : IntKind} {fuel : Nat} {v : Value} {x : DataW H × List MemPlace} (ht : P.underlying ti = some (.int k)) (h : DataW.trod enc P w base spare held fuel ti [v] = some x) : ∃ n, v = .int k n := by
  obtain ⟨n, e, _, _⟩ := DataW.trod_int ht h
  exact ⟨n, by injection e⟩
theorem open_bend {r : Reach} {b0 : Nat} {t : TypeId} {f0 f1 f2 f3 : Field} {v : Value} {d : DataW H} {p : List MemPlace}
    (hs : P.underlying t = some (.struct #[f0, f1, f2, f3])) (hone : oneCellFields P #[f0, f1, f2, f3] = true) (hC : P.cellsOf t = 4) (h0 : P.underlying f0.type = some .string) (h1 : P.underlying f1.type = some (.int .i64)) (h2 : P.underlying f2.type = some (.int .i64)) (h3 : P.underlying f3.type = some (.int .i64))
    (hv : Value.okWide P w r b0 t v) (h : DataW.Trod enc P w base spare held t v d p) :
    ∃ (s : ByteArray) (r l c : Int), v = .agg #[.string s, .int .i64 r, .int .i64 l, .int .i64 c] ∧ s.size ≤ 9223372036854775807 := by
  obtain ⟨v0, v1, v2, v3, y0, y1, y2, y3, m, rfl, _, _, hy0, hy1, hy2, hy3⟩ := open_agg4 hs hone hC hv h
  obtain ⟨s, e, _, hz⟩ := DataW.trod_string h0 hy0
  obtain ⟨r, rfl⟩ := int_cell h1 hy1
  obtain ⟨l, rfl⟩ := int_cell h2 hy2
  obtain ⟨c, rfl⟩ := int_cell h3 hy3
  have e0 : v0 = .string s := by injection e
  subst e0
  exact ⟨s, r, l, c, rfl, by unfold maxLen at hz; omega⟩
end
end Go.Proofs.YtlknncmnphbpkaaGreatDoor.BOpen
/- The laws' walks of the side of a bend. -/
namespace Go.Proofs.YtlknncmnphbpkaaGreatDoor.BLaw
open Go.RowKit Go.Proofs.YtlknncmnphbpkaaGreatDoor.Plain Go.Proofs.YtlknncmnphbpkaaGreatDoor.WalkA Go.Proofs.YtlknncmnphbpkaaGreatDoor.WalkB Go.Proofs.YtlknncmnphbpkaaGreatDoor.WalkC Go.Proofs.YtlknncmnphbpkaaGreatDoor.WalkF Go.Proofs.YtlknncmnphbpkaaGreatDoor.WalkH Go.Proofs.YtlknncmnphbpkaaGreatDoor.BndA

def szB (n : Nat) : Int := if (n : Int) ≤ 1048576 then 1048576 - (n : Int) else -1
theorem szB_in {n : Nat} (h : (n : Int) ≤ 1048576) : szB n = 1048576 - (n : Int) := if_pos h
theorem szB_out {n : Nat} (h : ¬ (n : Int) ≤ 1048576) : szB n = -1 := if_neg h
end Go.Proofs.YtlknncmnphbpkaaGreatDoor.BLaw
