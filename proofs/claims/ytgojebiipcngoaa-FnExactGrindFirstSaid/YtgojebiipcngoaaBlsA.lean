/- Lists of bends in memory, and the walks of the laws' sizes, copies and comparisons of them. -/
import Derived.Test.YtgojebiipcngoaaBLaw
namespace Go.Proofs.Ytgojebiipcngoaa.BlsA
open Go.RowKit Go.Proofs.Ytgojebiipcngoaa.Plain Go.Proofs.Ytgojebiipcngoaa.WalkA Go.Proofs.Ytgojebiipcngoaa.WalkB Go.Proofs.Ytgojebiipcngoaa.WalkC Go.Proofs.Ytgojebiipcngoaa.WalkF Go.Proofs.Ytgojebiipcngoaa.WalkH Go.Proofs.Ytgojebiipcngoaa.BndA Go.Proofs.Ytgojebiipcngoaa.BLaw

/-- A bend: its name and its three numbers. -/
structure Bnd where
  s : ByteArray
  r : Int
  l : Int
  c : Int
def Bnd.no : Bnd := ⟨ByteArray.empty, 0, 0, 0⟩
def bAt (bl : List Bnd) (i : Nat) : Bnd := bl.getD i Bnd.no
/-- The four cells of a bend, at block b from offset o on. -/
def Cells4 (w : World) (b o : Nat) (x : Bnd) : Prop :=
  w.cell? ⟨b, o, none⟩ = some (.string x.s) ∧ w.cell? ⟨b, o + 1, none⟩ = some (.int .i64 x.r) ∧ w.cell? ⟨b, o + 2, none⟩ = some (.int .i64 x.l) ∧ w.cell? ⟨b, o + 3, none⟩ = some (.int .i64 x.c)
/-- How bends lie in memory: behind a slice of n of them, below block B. -/
def Bnds (w : World) (B : Nat) (A : Option Addr) (n : Nat) (bl : List Bnd) : Prop :=
  bl.length = n ∧ (∀ i, i < n → (bAt bl i).s.size ≤ 9223372036854775807) ∧ (0 < n → ∃ (b off : Nat), A = some ⟨b, off, none⟩ ∧ b < B ∧ ∀ i, i < n → Cells4 w b (off + i * 4) (bAt bl i))
theorem Cells4.below {w w' : World} {B b o : Nat} {x : Bnd} (h : Cells4 w b o x) (hb : Below B w w') (hlt : b < B) : Cells4 w' b o x :=
  ⟨(hb.cell (p := ⟨b, o, none⟩) hlt).trans h.1, (hb.cell (p := ⟨b, o + 1, none⟩) hlt).trans h.2.1, (hb.cell (p := ⟨b, o + 2, none⟩) hlt).trans h.2.2.1, (hb.cell (p := ⟨b, o + 3, none⟩) hlt).trans h.2.2.2⟩
theorem Bnds.below {w w' : World} {B B' : Nat} {A : Option Addr} {n : Nat} {bl : List Bnd} (h : Bnds w B A n bl) (hb : Below B w w') (hB : B ≤ B') : Bnds w' B' A n bl :=
  ⟨h.1, h.2.1, fun hn => by
    obtain ⟨b, off, e, hlt, hc⟩ := h.2.2 hn
    exact ⟨b, off, e, by omega, fun i hi => (hc i hi).below hb hlt⟩⟩
theorem szBend_at (x : Bnd) (v : Int) (hv : 0 ≤ v ∧ v ≤ 1048576) (hz : x.s.size ≤ 9223372036854775807) (w : World) :
    Calls Try.prog 13 #[.agg #[.string x.s, .int .i64 x.r, .int .i64 x.l, .int .i64 x.c], .int .i64 v] w fun e w' => (∃ z, e = .returned (.int .i64 z) ∧ -1 ≤ z ∧ z ≤ v) ∧ Below w.heap.size w w' := by
  have hb : Hid (∀ o, Below w.heap.size w (w.alloc o)) := fun o => (Below.refl _ _).alloc (Nat.le_refl _) _
  obtain ⟨v1, v2⟩ := hv
  by_cases h : v - (x.s.size : Int) < 0
  · go_enter Try.func13, Try.ntmps13
    go_wp2
    go_ret
    exact ⟨⟨-1, rfl, by omega, by omega⟩, hb.out _⟩
  · go_enter Try.func13, Try.ntmps13
    go_wp2
    go_ret
    exact ⟨⟨_, rfl, by omega, by omega⟩, hb.out _⟩
theorem szBends_any (A : Option Addr) (n c : Nat) (bl : List Bnd) (w : World) (hs : Bnds w w.heap.size A n bl) (hn : n ≤ 9223372036854775807) :
    Calls Try.prog 4 #[.slice A n c, .int .i64 1048576] w fun e w' => (∃ z, e = .returned (.int .i64 z) ∧ -1 ≤ z ∧ z ≤ 1048576 ∧ (0 ≤ z → n ≤ 1048576)) ∧ Below w.heap.size w w' := by
  have HS := Lib.hid hs
  obtain ⟨rfl, hz, _⟩ := hs
  have HZ := Lib.hid hz
  clear hz
  by_cases h : (bl.length : Int) ≤ 1048576
  · go_enter Try.func4, Try.ntmps4
    go_wp2
    go_loopw [1, 5] (fun q i wr => ∃ (k : Nat) (v : Int), k ≤ bl.length ∧ i = .int .i64 k ∧ q = .int .i64 v ∧ 0 ≤ v ∧ v ≤ 1048576 ∧ Below w.heap.size w wr) (fun _ i _ => bl.length - (intOf i).toNat)
    case atStart => exact ⟨0, _, Nat.zero_le _, rfl, rfl, by omega, by omega, Below.refl _ _⟩
    case round =>
      obtain ⟨k, v, hk, rfl, rfl, v1, v2, hbr⟩ := hrel
      have HBR := Lib.hid hbr
      by_cases hlt : k < bl.length
      · obtain ⟨b, off, rfl, hb, hc⟩ := (HS.out.below hbr hbr.size).2.2 (by omega)
        obtain ⟨c0, c1, c2, c3⟩ := hc k hlt
        have HX := Lib.hid (HZ.out k hlt)
        clear hc hbr
        go_wp2_with fail
        refine (szBend_at (bAt bl k) v ⟨v1, v2⟩ HX.out _).mono ?_
        rintro e w2 ⟨⟨z, rfl, z1, z2⟩, hb2⟩
        have HB2 := Lib.hid hb2
        clear hb2 c0 c1 c2 c3
        by_cases hneg : z < 0
        · go_wp2
          go_ret
          exact ⟨⟨-1, rfl, by omega, by omega, fun _ => by omega⟩, HBR.out.trans (HB2.out.mono HBR.out.size)⟩
        · go_wp2
          go_roundw
          case rel => exact ⟨k + 1, z, by omega, by go_num, rfl, by omega, by omega, HBR.out.trans (HB2.out.mono HBR.out.size)⟩
          case measure => simp [intOf]; omega
      · clear hbr
        go_wp2
        go_ret
        exact ⟨⟨v, rfl, by omega, by omega, fun _ => by omega⟩, HBR.out⟩
  · go_enter Try.func4, Try.ntmps4
    go_wp2
    go_ret
    exact ⟨⟨-1, rfl, by omega, by omega, fun h => by omega⟩, Below.refl _ _⟩
end Go.Proofs.Ytgojebiipcngoaa.BlsA
