/- The walks of the laws whose answer is a new track: what the program's function and the reference's give is held by contracts alone. -/
import Derived.Test.YtomkldkmaabbnaaDoorTLaw
import Derived.Test.YtomkldkmaabbnaaDoorTrkT
namespace Go.Proofs.YtomkldkmaabbnaaDoor.TLawR
open Go.RowKit Go.Proofs.YtomkldkmaabbnaaDoor.Plain Go.Proofs.YtomkldkmaabbnaaDoor.TrkP Go.Proofs.YtomkldkmaabbnaaDoor.WalkA Go.Proofs.YtomkldkmaabbnaaDoor.TrkA Go.Proofs.YtomkldkmaabbnaaDoor.TrkB Go.Proofs.YtomkldkmaabbnaaDoor.TrkC Go.Proofs.YtomkldkmaabbnaaDoor.TrkD Go.Proofs.YtomkldkmaabbnaaDoor.TrkE Go.Proofs.YtomkldkmaabbnaaDoor.TrkR Go.Proofs.YtomkldkmaabbnaaDoor.TrkS Go.Proofs.YtomkldkmaabbnaaDoor.TrkT Go.Proofs.YtomkldkmaabbnaaDoor.TLaw

/-- A copy of a track, in memory of the call's own. -/
def NewTrk' (w : World) (l : List (Int × Int)) (lf lu : Int) (e : Ending) (w' : World) : Prop :=
  ∃ A c, e = .returned (.agg #[.slice A l.length c, .int .i64 lf, .int .i64 lu]) ∧ OwnT w' w.heap.size A l.length l ∧ Below w.heap.size w w'
theorem NewTrackR.own {w : World} {l : List (Int × Int)} {lf lu : Int} {e : Ending} {w' : World} (h : NewTrackR w l lf lu e w') : NewTrk' w l lf lu e w' := by
  obtain ⟨g, c, cs, rfl, h1, h2, hs, hb, hr, hz⟩ := h
  refine ⟨some ⟨g, 0, none⟩, c, rfl, ⟨rfl, fun hn => ⟨g, cs, rfl, h1, hr, by omega, fun i hi => ?_⟩⟩, hb⟩
  obtain ⟨b, off, e, _, hc⟩ := hs.2 hn
  injection e with e
  injection e with e1 e2
  subst e1; subst e2
  obtain ⟨a, b⟩ := hc i hi
  rw [hr.cell, Nat.zero_add] at a
  rw [hr.cell, Nat.zero_add] at b
  exact ⟨a, b⟩
/-- The block of a slice lies below H. -/
def Up (A : Option Addr) (n H : Nat) : Prop := ∀ g, A = some ⟨g, 0, none⟩ → 0 < n → g < H
theorem OwnT.up {W : World} {B : Nat} {A : Option Addr} {n : Nat} {l : List (Int × Int)} (h : OwnT W B A n l) : Up A n W.heap.size := fun g e hn => by
  obtain ⟨g', cs, e', _, hr, _⟩ := h.2 hn
  rw [e] at e'
  injection e' with e'
  injection e' with e'
  rw [e']
  exact hr.lt
/-- A mark on one slice does not touch another one that lies below it. -/
theorem OwnT.past {W W' : World} {B H BX nx : Nat} {A AX : Option Addr} {n : Nat} {l lx : List (Int × Int)} (h : OwnT W B A n l) (hu : Up A n H) (hx : OwnT W BX AX nx lx) (hH : H ≤ BX) (hg : W.grownBy W' (markRow AX nx)) : OwnT W' B A n l :=
  h.grown hg fun g e _ _ hn => markRow_ne (w := W) (B := BX) (l := lx) (fun g' e' hn' => by
    have a := hu g e hn
    obtain ⟨g2, _, e2, hB, _⟩ := hx.2 hn'
    rw [e'] at e2
    injection e2 with e2
    injection e2 with e2
    omega) hx
/-- .. nor one that lies above it. -/
theorem OwnT.above {W W' : World} {B BX nx : Nat} {A AX : Option Addr} {n : Nat} {l lx : List (Int × Int)} (h : OwnT W B A n l) (hux : Up AX nx B) (hx : OwnT W BX AX nx lx) (hg : W.grownBy W' (markRow AX nx)) : OwnT W' B A n l :=
  h.grown hg fun g _ hB _ _ => markRow_ne (w := W) (B := BX) (l := lx) (fun g' e' hn' => by have := hux g' e' hn'; omega) hx
/-- .. nor a struct's block. -/
theorem row_past {W W' : World} {P : Nat} {t : TypeId} {cs : Array Value} {BX nx : Nat} {AX : Option Addr} {lx : List (Int × Int)} (h : RowAt W P t cs) (ht : t ≠ 35) (hx : OwnT W BX AX nx lx) (hg : W.grownBy W' (markRow AX nx)) : RowAt W' P t cs :=
  RowAt.grown h hg (markRow_ne (w := W) (B := BX) (l := lx) (fun g' e' hn' => by
    obtain ⟨g2, cs2, e2, _, hr, _⟩ := hx.2 hn'
    rw [e'] at e2
    injection e2 with e2
    injection e2 with e2
    subst e2
    rintro rfl
    unfold RowAt at h hr
    rw [h] at hr
    injection hr with hr
    injection hr with _ hr
    exact ht hr) hx)
theorem mark_below {w W W' : World} {BX nx : Nat} {AX : Option Addr} {lx : List (Int × Int)} (hB : Below w.heap.size w W) (hx : OwnT W BX AX nx lx) (hBX : w.heap.size ≤ BX) (hg : W.grownBy W' (markRow AX nx)) : Below w.heap.size w W' :=
  hB.trans (grown_up hg (fun k hk => by
    unfold markRow at hk
    by_cases h0 : nx = 0
    · rw [if_pos h0] at hk; cases hk
    · obtain ⟨g2, _, e2, hB, _⟩ := hx.2 (by omega)
      rw [if_neg h0, e2] at hk
      simp only [Option.map_some] at hk
      injection hk with hk
      omega) hB.size)

end Go.Proofs.YtomkldkmaabbnaaDoor.TLawR
