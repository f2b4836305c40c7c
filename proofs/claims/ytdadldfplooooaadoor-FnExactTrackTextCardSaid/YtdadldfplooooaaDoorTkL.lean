/- The law on texts of tracks. -/
import Derived.Test.YtdadldfplooooaaDoorTLaw
import Derived.Test.YtdadldfplooooaaDoorTkA
namespace Go.Proofs.YtdadldfplooooaaDoor.TkL
open Go.RowKit Go.Proofs.YtdadldfplooooaaDoor.Plain Go.Proofs.YtdadldfplooooaaDoor.TrkP Go.Proofs.YtdadldfplooooaaDoor.TxtB Go.Proofs.YtdadldfplooooaaDoor.TxtK Go.Proofs.YtdadldfplooooaaDoor.WalkA Go.Proofs.YtdadldfplooooaaDoor.TrkA Go.Proofs.YtdadldfplooooaaDoor.TrkB Go.Proofs.YtdadldfplooooaaDoor.TrkC Go.Proofs.YtdadldfplooooaaDoor.TrkD Go.Proofs.YtdadldfplooooaaDoor.TLaw Go.Proofs.YtdadldfplooooaaDoor.TkA

theorem trackText (A : Option Addr) (n c : Nat) (lf lu : Int) (l : List (Int × Int)) (w : World) (hs : Secs w w.heap.size A n l) (hn : n ≤ 9223372036854775807) (ht : Tab w) :
    Calls Tryd.prog 4 #[.agg #[.slice A n c, .int .i64 lf, .int .i64 lu]] w fun e w' => e = .returned (.bool true) ∧ Below w.heap.size w w' := by
  obtain ⟨q0, q1, q2, q3, q4⟩ := boxed w 31 (.slice A n c) (.int .i64 lf) (.int .i64 lu)
  have HC := Lib.hid (And.intro q0 (And.intro q1 q2))
  have HB := Lib.hid q3
  have HZ := Lib.hid q4
  have hr1 := hs.1
  subst hr1
  have HS := Lib.hid hs
  clear q0 q1 q2 q3 q4 hs
  by_cases hsz : (l.length : Int) ≤ 1048576
  · have HSZ := Lib.hid (fun w => szTrack_any A l.length c lf lu hn w)
    rw [szI_in hsz] at HSZ
    have hle : l.length ≤ 1048576 := by omega
    have HT := Lib.hid (fun (W : World) (hb : Below w.heap.size w W) => toTrack_any A l.length c lf lu l W (HS.out.below hb hb.size) hle)
    go_enter Tryd.func4, Tryd.ntmps4
    go_wp2_with fail
    generalize w.alloc (.cells #[.slice A l.length c, .int .i64 lf, .int .i64 lu] 31) = W0 at *
    -- how large it is
    refine (HSZ.out _).mono ?_
    rintro e w1 ⟨rfl, hb1⟩
    have hz := HZ.out
    obtain ⟨q0, q1, q2⟩ := HC.out
    have B1 : Hid (Below (w.heap.size + 1) W0 w1) := hb1.mono (by omega)
    have r0 := (B1.out.cell (p := ⟨w.heap.size, 0, none⟩) (show w.heap.size < _ by omega)).trans q0
    have r1 := (B1.out.cell (p := ⟨w.heap.size, 1, none⟩) (show w.heap.size < _ by omega)).trans q1
    have r2 := (B1.out.cell (p := ⟨w.heap.size, 2, none⟩) (show w.heap.size < _ by omega)).trans q2
    clear hb1 hz q0 q1 q2
    go_wp2_with fail
    -- the reference's copy
    refine (HT.out _ (HB.out.trans (B1.out.mono (by omega)))).mono ?_
    rintro e w2 ⟨g2, c2, rfl, g2a, g2b, hs2, hb2⟩
    have S2 := Lib.hid hs2
    have B2 : Hid (Below (w.heap.size + 1) W0 w2) := B1.out.trans (hb2.mono (by have := B1.out.size; have := HZ.out; omega))
    clear hs2 hb2 r0 r1 r2
    go_wp2_with fail
    refine (specTrackText_any _ _ _ _ _ _ _ S2.out hle).mono ?_
    rintro e w3 ⟨rfl, hb3⟩
    have B3 : Hid (Below (w.heap.size + 1) W0 w3) := B2.out.trans (hb3.mono (by have := B2.out.size; have := HZ.out; omega))
    obtain ⟨q0, q1, q2⟩ := HC.out
    have r0 := (B3.out.cell (p := ⟨w.heap.size, 0, none⟩) (show w.heap.size < _ by omega)).trans q0
    have r1 := (B3.out.cell (p := ⟨w.heap.size, 1, none⟩) (show w.heap.size < _ by omega)).trans q1
    have r2 := (B3.out.cell (p := ⟨w.heap.size, 2, none⟩) (show w.heap.size < _ by omega)).trans q2
    clear hb3 q0 q1 q2
    go_wp2_with fail
    -- the program's copy
    refine (HT.out _ (HB.out.trans (B3.out.mono (by omega)))).mono ?_
    rintro e w4 ⟨g4, c4, rfl, g4a, g4b, hs4, hb4⟩
    have B4 : Hid (Below (w.heap.size + 1) W0 w4) := B3.out.trans (hb4.mono (by have := B3.out.size; have := HZ.out; omega))
    obtain ⟨x0, x1, x2, x3, x4⟩ := boxed w4 36 (.slice (some ⟨g4, 0, none⟩) l.length c4) (.int .i64 lf) (.int .i64 lu)
    have X := Lib.hid (And.intro x0 (And.intro x1 x2))
    have X4 := Lib.hid x4
    have S5 := Lib.hid (hs4.below x3 x3.size)
    have B5 : Hid (Below (w.heap.size + 1) W0 (w4.alloc (.cells #[.slice (some ⟨g4, 0, none⟩) l.length c4, .int .i64 lf, .int .i64 lu] 36))) := B4.out.trans (x3.mono (by have := B4.out.size; have := HZ.out; omega))
    clear hs4 hb4 r0 r1 r2 x0 x1 x2 x3 x4
    go_wp2_with fail
    generalize w4.alloc (.cells #[.slice (some ⟨g4, 0, none⟩) l.length c4, .int .i64 lf, .int .i64 lu] 36) = W5 at *
    refine (implTrackText_any _ _ _ _ _ _ _ S5.out hle (ht.below (HB.out.trans (B5.out.mono (by omega))))).mono ?_
    rintro e w6 ⟨rfl, hb6⟩
    have B6 : Hid (Below (w.heap.size + 1) W0 w6) := B5.out.trans (hb6.mono (by have := B5.out.size; have := HZ.out; omega))
    have S6 := Lib.hid (S5.out.below hb6 hb6.size)
    obtain ⟨q0, q1, q2⟩ := HC.out
    have r0 := (B6.out.cell (p := ⟨w.heap.size, 0, none⟩) (show w.heap.size < _ by omega)).trans q0
    have r1 := (B6.out.cell (p := ⟨w.heap.size, 1, none⟩) (show w.heap.size < _ by omega)).trans q1
    have r2 := (B6.out.cell (p := ⟨w.heap.size, 2, none⟩) (show w.heap.size < _ by omega)).trans q2
    obtain ⟨x0, x1, x2⟩ := X.out
    have hx : w4.heap.size < W5.heap.size := by have := X4.out; omega
    have y0 := (hb6.cell (p := ⟨w4.heap.size, 0, none⟩) hx).trans x0
    have y1 := (hb6.cell (p := ⟨w4.heap.size, 1, none⟩) hx).trans x1
    have y2 := (hb6.cell (p := ⟨w4.heap.size, 2, none⟩) hx).trans x2
    have hp : w.heap.size < w6.heap.size := by have := B6.out.size; have := HZ.out; omega
    have hq : w4.heap.size < w6.heap.size := Nat.lt_of_lt_of_le hx hb6.size
    have HT6 : Hid (∀ W : World, Below w6.heap.size w6 W → Calls Tryd.prog 15 #[.agg #[.slice A l.length c, .int .i64 lf, .int .i64 lu]] W (NewTrack W l lf lu)) := fun W hW => HT.out W (HB.out.trans (B6.out.trans (hW.mono (by omega)) |>.mono (by omega)))
    have HE6 : Hid (∀ (W : World) (g c' : Nat), Below w6.heap.size w6 W → Secs W W.heap.size (some ⟨g, 0, none⟩) l.length l → Calls Tryd.prog 17 #[.agg #[.slice (some ⟨g4, 0, none⟩) l.length c4, .int .i64 lf, .int .i64 lu], .agg #[.slice (some ⟨g, 0, none⟩) l.length c', .int .i64 lf, .int .i64 lu]] W fun e w' => e = .returned (.bool true) ∧ Below W.heap.size W w') :=
      fun W g c' hW hg => eqTrack_any _ _ _ _ _ _ _ l W (S6.out.below hW hW.size) hg hn
    have HF : Hid (∀ W : World, Below w6.heap.size w6 W → Below w.heap.size w W) := fun W hW => HB.out.trans ((B6.out.trans (hW.mono (by omega))).mono (by omega))
    clear hb6 q0 q1 q2 x0 x1 x2 hx
    go_wp2
    go_region_held3 (fun w' => w'.cell? ⟨w.heap.size, 0, none⟩ = some (.slice A l.length c) ∧ w'.cell? ⟨w.heap.size, 1, none⟩ = some (.int .i64 lf) ∧ w'.cell? ⟨w.heap.size, 2, none⟩ = some (.int .i64 lu) ∧ w'.cell? ⟨w4.heap.size, 0, none⟩ = some (.slice (some ⟨g4, 0, none⟩) l.length c4) ∧ w'.cell? ⟨w4.heap.size, 1, none⟩ = some (.int .i64 lf) ∧ w'.cell? ⟨w4.heap.size, 2, none⟩ = some (.int .i64 lu) ∧ Below w6.heap.size w6 w')
      (first | exact ⟨r0, r1, r2, y0, y1, y2, (Below.refl _ _).drew⟩ | (go_split_ands; exact keep6 hp hq (by assumption) (by assumption) (by assumption) (by assumption) (by assumption) (by assumption) (by assumption) (by assumption)))
      (first | (go_at_call 15; refine (HT6.out _ ?_).mono ?_; (go_split_ands; assumption); rintro e w7 ⟨g7, c7, rfl, g7a, g7b, hs7, hb7⟩) | (go_at_call 17; refine (HE6.out _ _ _ ?_ ?_).mono ?_; (go_split_ands; assumption); (assumption); rintro e w8 ⟨rfl, hb8⟩))
    go_wp2
    go_ret
    exact ⟨rfl, HF.out _ (by go_split_ands; assumption)⟩
  · have HSZ := Lib.hid (fun w => szTrack_any A l.length c lf lu hn w)
    rw [szI_out hsz] at HSZ
    go_enter Tryd.func4, Tryd.ntmps4
    go_wp2_with (go_at_call 13; refine (HSZ.out _).mono ?_; rintro e w1 ⟨rfl, hb1⟩)
    go_ret
    exact ⟨rfl, HB.out.trans (hb1.mono (by have := HZ.out; omega))⟩
theorem trackText_law (A : Option Addr) (n c : Nat) (lf lu : Int) (l : List (Int × Int)) (w : World) (ht : Tab w) (hs : Secs w w.heap.size A n l) (hn : n ≤ 9223372036854775807) :
    Calls Tryd.prog 4 #[.agg #[.slice A n c, .int .i64 lf, .int .i64 lu]] w fun e w' => e = .returned (.bool true) ∧ Below w.heap.size w w' := trackText A n c lf lu l w hs hn ht
end Go.Proofs.YtdadldfplooooaaDoor.TkL
