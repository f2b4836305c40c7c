/- The law on tracks. -/
import Derived.Test.YtcpppiafjlgimaaTraP
import Derived.Test.YtcpppiafjlgimaaTrkY
import Derived.Test.YtcpppiafjlgimaaTrkO
import Derived.Test.YtcpppiafjlgimaaTrkI
import Derived.Test.YtcpppiafjlgimaaTrkG
import Derived.Deep.DeepCutAuto
namespace Go.Proofs.Ytcpppiafjlgimaa.TraA
set_option maxRecDepth 100000
open Go.RowKit Go.Proofs.Ytcpppiafjlgimaa.Plain Go.Proofs.Ytcpppiafjlgimaa.TrkP Go.Proofs.Ytcpppiafjlgimaa.WalkA Go.Proofs.Ytcpppiafjlgimaa.TrkA Go.Proofs.Ytcpppiafjlgimaa.TrkC Go.Proofs.Ytcpppiafjlgimaa.TrkD Go.Proofs.Ytcpppiafjlgimaa.TrkE Go.Proofs.Ytcpppiafjlgimaa.TrkF Go.Proofs.Ytcpppiafjlgimaa.TrkG Go.Proofs.Ytcpppiafjlgimaa.TrkH Go.Proofs.Ytcpppiafjlgimaa.TrkI Go.Proofs.Ytcpppiafjlgimaa.TrkJ Go.Proofs.Ytcpppiafjlgimaa.TrkO Go.Proofs.Ytcpppiafjlgimaa.TrkS Go.Proofs.Ytcpppiafjlgimaa.TrkT Go.Proofs.Ytcpppiafjlgimaa.TrkV Go.Proofs.Ytcpppiafjlgimaa.TrkY0 Go.Proofs.Ytcpppiafjlgimaa.TrkY Go.Proofs.Ytcpppiafjlgimaa.SrcT Go.Proofs.Ytcpppiafjlgimaa.TraP
open Go.Proofs.Ytcpppiafjlgimaa.SrcA (Bys Some64 r8Long_any r8At_any r8Wide_any)

/-- What the law holds in memory: a track in a box, its sections, the bytes of an input. -/
structure Hold (W : World) (b g cp : Nat) (l : List (Int × Int)) (lf lu : Int) (A : Option Addr) (n : Nat) : Prop where
  c0 : W.cell? ⟨b, 0, none⟩ = some (.slice (some ⟨g, 0, none⟩) l.length cp)
  c1 : W.cell? ⟨b, 1, none⟩ = some (.int .i64 lf)
  c2 : W.cell? ⟨b, 2, none⟩ = some (.int .i64 lu)
  secs : Secs W W.heap.size (some ⟨g, 0, none⟩) l.length l
  bys : Bys W W.heap.size A n
  lt : b < W.heap.size
theorem Hold.below {W W' : World} {b g cp : Nat} {l : List (Int × Int)} {lf lu : Int} {A : Option Addr} {n : Nat} (h : Hold W b g cp l lf lu A n) (hb : Below W.heap.size W W') : Hold W' b g cp l lf lu A n :=
  ⟨(hb.cell (p := ⟨b, 0, none⟩) h.lt).trans h.c0, (hb.cell (p := ⟨b, 1, none⟩) h.lt).trans h.c1, (hb.cell (p := ⟨b, 2, none⟩) h.lt).trans h.c2, h.secs.below hb hb.size, h.bys.below hb hb.size, Nat.lt_of_lt_of_le h.lt hb.size⟩
theorem Hold.new {w : World} {g cp : Nat} {l : List (Int × Int)} {lf lu : Int} {A : Option Addr} {n : Nat} (hs : Secs w w.heap.size (some ⟨g, 0, none⟩) l.length l) (hb : Bys w w.heap.size A n) :
    Hold (w.alloc (.cells #[.slice (some ⟨g, 0, none⟩) l.length cp, .int .i64 lf, .int .i64 lu] 26)) w.heap.size g cp l lf lu A n := by
  obtain ⟨q0, q1, q2, q3, q4⟩ := boxed w 26 (.slice (some ⟨g, 0, none⟩) l.length cp) (.int .i64 lf) (.int .i64 lu)
  exact ⟨q0, q1, q2, hs.below q3 q3.size, hb.below q3 q3.size, by omega⟩

/-- The code behind m statements. -/
def dropSeq : Nat → Code → Code
  | 0, c => c
  | n + 1, .seq _ b => dropSeq n b
  | _ + 1, c => c
noncomputable def B : Code := Try.f3.body.getD .skip

end Go.Proofs.Ytcpppiafjlgimaa.TraA
