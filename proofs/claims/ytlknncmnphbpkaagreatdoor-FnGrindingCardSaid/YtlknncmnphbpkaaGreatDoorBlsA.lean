/- Lists of bends in memory, and the walks of the laws' sizes, copies and comparisons of them. -/
import Derived.Test.YtlknncmnphbpkaaGreatDoorBOpen
namespace Go.Proofs.YtlknncmnphbpkaaGreatDoor.BlsA
open Go.RowKit Go.Proofs.YtlknncmnphbpkaaGreatDoor.Plain Go.Proofs.YtlknncmnphbpkaaGreatDoor.WalkA Go.Proofs.YtlknncmnphbpkaaGreatDoor.WalkB Go.Proofs.YtlknncmnphbpkaaGreatDoor.WalkC Go.Proofs.YtlknncmnphbpkaaGreatDoor.WalkF Go.Proofs.YtlknncmnphbpkaaGreatDoor.WalkH Go.Proofs.YtlknncmnphbpkaaGreatDoor.BndA Go.Proofs.YtlknncmnphbpkaaGreatDoor.BLaw

/-- A bend: its name and its three numbers. -/
structure Bnd where
  s : ByteArray
  r : Int
  l : Int
  c : Int
def Bnd.no : Bnd := ⟨ByteArray.empty, 0, 0, 0⟩
def bAt (bl : List Bnd) (i : Nat) : Bnd := bl.getD i Bnd.no
/-- The four cells of a bend, at block b from offset o on. -/
def Cells4 (w : World) (b o : Nat) (x : Bnd) : Prop :=
  w.cell? ⟨b, o, none⟩ = some (.string x.s) ∧ w.cell? ⟨b, o + 1, none⟩ = some (.int .i64 x.r) ∧ w.cell? ⟨b, o + 2, none⟩ = some (.int .i64 x.l) ∧ w.cell? ⟨b, o + 3, none⟩ = some (.int .i64 x.c)
/-- How bends lie in memory: behind a slice of n of them, below block B. -/
def Bnds (w : World) (B : Nat) (A : Option Addr) (n : Nat) (bl : List Bnd) : Prop :=
  bl.length = n ∧ (∀ i, i < n → (bAt bl i).s.size ≤ 9223372036854775807) ∧ (0 < n → ∃ (b off : Nat), A = some ⟨b, off, none⟩ ∧ b < B ∧ ∀ i, i < n → Cells4 w b (off + i * 4) (bAt bl i))
theorem Cells4.below {w w' : World} {B b o : Nat} {x : Bnd} (h : Cells4 w b o x) (hb : Below B w w') (hlt : b < B) : Cells4 w' b o x :=
  ⟨(hb.cell (p := ⟨b, o, none⟩) hlt).trans h.1, (hb.cell (p := ⟨b, o + 1, none⟩) hlt).trans h.2.1, (hb.cell (p := ⟨b, o + 2, none⟩) hlt).trans h.2.2.1, (hb.cell (p := ⟨b, o + 3, none⟩) hlt).trans h.2.2.2⟩
theorem Bnds.below {w w' : World} {B B' : Nat} {A : Option Addr} {n : Nat} {bl : List Bnd} (h : Bnds w B A n bl) (hb : Below B w w') (hB : B ≤ B') : Bnds w' B' A n bl :=
  ⟨h.1, h.2.1, fun hn => by
    obtain ⟨b, off, e, hlt, hc⟩ := h.2.2 hn
    exact ⟨b, off, e, by omega, fun i hi => (hc i hi).below hb hlt⟩⟩
end Go.Proofs.YtlknncmnphbpkaaGreatDoor.BlsA
