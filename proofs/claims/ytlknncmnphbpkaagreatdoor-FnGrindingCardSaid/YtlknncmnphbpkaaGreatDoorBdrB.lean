/- Draws of bends: speeds, sides, rides, masses, and what the laws draw out of an input. -/
import Derived.Test.YtlknncmnphbpkaaGreatDoorBdrA
import Derived.Deep.RegionWith
namespace Go.Proofs.YtlknncmnphbpkaaGreatDoor.BdrB
set_option maxRecDepth 100000
open Go.RowKit Go.Proofs.YtlknncmnphbpkaaGreatDoor.Plain
open Go.Proofs.YtlknncmnphbpkaaGreatDoor.SrcA Go.Proofs.YtlknncmnphbpkaaGreatDoor.BdrA

theorem Num.more {p : Nat} {A : Option Addr} {n c K K' : Nat} {w : World} {e : Ending} {w' : World} (h : Num p A n c K w e w') (hK : K ≤ K') : Num p A n c K' w e w' := by
  obtain ⟨x, he, hs, hb⟩ := h
  exact ⟨x, he, hs.more hK, hb⟩
theorem drawMost_any (p : Nat) (A : Option Addr) (n c K : Nat) (hK : K ≤ 900000) (w : World) (h : Src w p A n c K) :
    Calls Tryz.prog 38 #[.pointer (some ⟨p, 0, none⟩)] w (Num p A n c (K + 4) w) := by
  have HO := Lib.hid (one_any p A n c K (by omega) 9 (by omega) w h)
  clear h
  go_enter Tryz.func38, Tryz.ntmps38
  go_wp2_with fail
  refine HO.out.mono ?_
  rintro e w1 ⟨b, rfl, hs1, hb1⟩
  have HS := Lib.hid hs1
  have HB := Lib.hid hb1
  clear hs1 hb1 HO
  cases b
  · go_wp2_with fail
    refine (pick_any p A n c (K + 2) (by omega) 60 (by omega) w1 HS.out).mono ?_
    rintro e w2 ⟨x, x0, x1, rfl, hs2, hb2, hz2⟩
    have HF : Hid (Src w2 p A n c (K + 4) ∧ But p w w2) := ⟨hs2, HB.out.trans hb2⟩
    clear hs2 hb2 hz2
    go_wp2_with fail
    go_ret
    exact ⟨_, rfl, HF.out⟩
  · go_wp2_with fail
    refine (among_new p A n c (K + 2) (by omega) 2 #[.int .i64 (-1), .int .i64 0, .int .i64 5000, .int .i64 5001] 4 (by omega) (fun i hi => by rcases i with _|_|_|_|i <;> first | exact ⟨_, rfl⟩ | omega) w1 HS.out).mono ?_
    rintro e w2 ⟨V, rfl, hs2, hb2⟩
    have HF : Hid (Src w2 p A n c (K + 4) ∧ But p w w2) := ⟨hs2, HB.out.trans hb2⟩
    clear hs2 hb2
    go_wp2_with fail
    go_ret
    exact ⟨_, rfl, HF.out⟩
theorem drawRides_any (p : Nat) (A : Option Addr) (n c K : Nat) (hK : K ≤ 900000) (w : World) (h : Src w p A n c K) :
    Calls Tryz.prog 21 #[.pointer (some ⟨p, 0, none⟩)] w (Num p A n c (K + 4) w) := by
  have HO := Lib.hid (one_any p A n c K (by omega) 9 (by omega) w h)
  clear h
  go_enter Tryz.func21, Tryz.ntmps21
  go_wp2_with fail
  refine HO.out.mono ?_
  rintro e w1 ⟨b, rfl, hs1, hb1⟩
  have HS := Lib.hid hs1
  have HB := Lib.hid hb1
  clear hs1 hb1 HO
  cases b
  · go_wp2_with fail
    refine (pick_any p A n c (K + 2) (by omega) 500 (by omega) w1 HS.out).mono ?_
    rintro e w2 ⟨x, x0, x1, rfl, hs2, hb2, hz2⟩
    have HF : Hid (Src w2 p A n c (K + 4) ∧ But p w w2) := ⟨hs2, HB.out.trans hb2⟩
    clear hs2 hb2 hz2
    go_wp2_with fail
    go_ret
    exact ⟨_, rfl, HF.out⟩
  · go_wp2_with fail
    refine (among_new p A n c (K + 2) (by omega) 2 #[.int .i64 (-1), .int .i64 0, .int .i64 1000000, .int .i64 1000001] 4 (by omega) (fun i hi => by rcases i with _|_|_|_|i <;> first | exact ⟨_, rfl⟩ | omega) w1 HS.out).mono ?_
    rintro e w2 ⟨V, rfl, hs2, hb2⟩
    have HF : Hid (Src w2 p A n c (K + 4) ∧ But p w w2) := ⟨hs2, HB.out.trans hb2⟩
    clear hs2 hb2
    go_wp2_with fail
    go_ret
    exact ⟨_, rfl, HF.out⟩
theorem drawKilos_any (p : Nat) (A : Option Addr) (n c K : Nat) (hK : K ≤ 900000) (w : World) (h : Src w p A n c K) :
    Calls Tryz.prog 20 #[.pointer (some ⟨p, 0, none⟩)] w (Num p A n c (K + 4) w) := by
  have HO := Lib.hid (one_any p A n c K (by omega) 9 (by omega) w h)
  clear h
  go_enter Tryz.func20, Tryz.ntmps20
  go_wp2_with fail
  refine HO.out.mono ?_
  rintro e w1 ⟨b, rfl, hs1, hb1⟩
  have HS := Lib.hid hs1
  have HB := Lib.hid hb1
  clear hs1 hb1 HO
  cases b
  · go_wp2_with fail
    refine (pick_any p A n c (K + 2) (by omega) 40 (by omega) w1 HS.out).mono ?_
    rintro e w2 ⟨x, x0, x1, rfl, hs2, hb2, hz2⟩
    have HF : Hid (Src w2 p A n c (K + 4) ∧ But p w w2) := ⟨hs2, HB.out.trans hb2⟩
    clear hs2 hb2 hz2
    go_wp2_with fail
    go_ret
    exact ⟨_, rfl, HF.out⟩
  · go_wp2_with fail
    refine (among_new p A n c (K + 2) (by omega) 2 #[.int .i64 (-1), .int .i64 0, .int .i64 100000, .int .i64 100001] 4 (by omega) (fun i hi => by rcases i with _|_|_|_|i <;> first | exact ⟨_, rfl⟩ | omega) w1 HS.out).mono ?_
    rintro e w2 ⟨V, rfl, hs2, hb2⟩
    have HF : Hid (Src w2 p A n c (K + 4) ∧ But p w w2) := ⟨hs2, HB.out.trans hb2⟩
    clear hs2 hb2
    go_wp2_with fail
    go_ret
    exact ⟨_, rfl, HF.out⟩
/-- What a draw of a law keeps: its source, its results' row, all memory ahead. -/
structure Top (w : World) (p : Nat) (A : Option Addr) (n c K : Nat) (W : World) : Prop where
  src : Src W p A n c K
  res : RowAt W w.heap.size 25 #[.string ⟨#[]⟩, .int .i64 0, .int .i64 0, .int .i64 0]
  low : Below w.heap.size w W
  lt : w.heap.size < p
theorem Top.but {w W W' : World} {p : Nat} {A : Option Addr} {n c K K' : Nat} (h : Top w p A n c K W) (hs : Src W' p A n c K') (hb : But p W W') : Top w p A n c K' W' :=
  ⟨hs, hb.row h.res (by have := h.lt; omega), h.low.trans (hb.below (Nat.le_of_lt h.lt) h.low.size), h.lt⟩
theorem Top.below {w W W' : World} {p : Nat} {A : Option Addr} {n c K : Nat} (h : Top w p A n c K W) (hb : Below W.heap.size W W') : Top w p A n c K W' :=
  ⟨h.src.below hb, row_low h.res hb h.res.lt, h.low.trans (hb.mono h.low.size), h.lt⟩
theorem drawRidesTo_any (A : Option Addr) (n c : Nat) (w : World) (hb : Bys w w.heap.size A n) (hn : n ≤ 1048576) :
    Calls Tryz.prog 5 #[.slice A n c] w fun e w' => ∃ (s : ByteArray) (x y z m0 m : Int), s.size ≤ 2 ∧ e = .returned (.tuple #[.agg #[.string s, .int .i64 x, .int .i64 y, .int .i64 z], .int .i64 m0, .int .i64 m]) ∧ Below w.heap.size w w' := by
  have b0 := (Below.refl w.heap.size w).alloc (Nat.le_refl _) (.cells #[.string ⟨#[]⟩, .int .i64 0, .int .i64 0, .int .i64 0] 25)
  have HB0 := Lib.hid b0
  have HR0 := Lib.hid (RowAt.new w 25 #[.string ⟨#[]⟩, .int .i64 0, .int .i64 0, .int .i64 0])
  have HF := Lib.hid (from_any A n c _ (hb.below b0 b0.size) hn)
  clear b0 hb
  go_enter Tryz.func5, Tryz.ntmps5
  go_wp2_with fail
  generalize w.alloc (.cells #[.string ⟨#[]⟩, .int .i64 0, .int .i64 0, .int .i64 0] 25) = W0 at *
  refine HF.out.mono ?_
  rintro e w1 ⟨rfl, hs1, hb1, hz1⟩
  have HT1 : Hid (Top w W0.heap.size A n c 0 w1) := ⟨hs1, row_low HR0.out hb1 HR0.out.lt, HB0.out.trans (hb1.mono HB0.out.size), HR0.out.lt⟩
  clear hs1 hb1 hz1 HF
  go_wp2_with fail
  generalize W0.heap.size = p at *
  refine (drawOne_any p A n c 0 (by omega) _ w1 HT1.out.src).mono ?_
  rintro e w2 ⟨x, y, z, rfl, hs2, hb2⟩
  have HT2 := Lib.hid (HT1.out.but hs2 hb2)
  clear hs2 hb2
  go_wp2_with fail
  refine (bent_any p A n c _ (by omega) _ x y z w2 HT2.out.src).mono ?_
  rintro e w3 ⟨x', y', z', rfl, hs3, hb3⟩
  have HT3 := Lib.hid (HT2.out.but hs3 hb3)
  clear hs3 hb3
  have HT4 := Lib.hid (HT3.out.below ((Below.refl w3.heap.size w3).alloc (Nat.le_refl _) (.cells #[.string ⟨#[98, 97]⟩, .int .i64 x', .int .i64 y', .int .i64 z'] 25)))
  have HR4 := Lib.hid (RowAt.new w3 25 #[.string ⟨#[98, 97]⟩, .int .i64 x', .int .i64 y', .int .i64 z'])
  have hgp : w3.heap.size ≠ p := by have := HT3.out.src.lt; omega
  go_wp2_with fail
  generalize hgg : w3.heap.size = g at *
  generalize w3.alloc (.cells #[.string ⟨#[98, 97]⟩, .int .i64 x', .int .i64 y', .int .i64 z'] 25) = V0 at *
  clear hgg
  have HT_0 := HT4
  have HR_0 := HR4
  clear HT4 HR4
  refine (drawKilos_any p A n c (0 + 6 + 4) (by omega) V0 HT_0.out.src).mono ?_
  rintro e V1 ⟨m0, rfl, hs, hb⟩
  have HT_1 := Lib.hid (HT_0.out.but hs hb)
  have HR_1 := Lib.hid (hb.row HR_0.out hgp)
  clear hs hb
  go_wp2_with fail
  have HM := Lib.hid (fun W (h : Src W p A n c (0 + 6 + 4 + 4)) => drawRides_any p A n c (0 + 6 + 4 + 4) (by omega) W h)
  obtain ⟨a0, a1, a2, a3, a4, a5, a6, a7⟩ := row4 HR_1.out
  have HT4d := Lib.hid (HT_1.out.below (Below.refl V1.heap.size V1).drew)
  have HR4d : Hid (RowAt V1.drew g 25 #[.string ⟨#[98, 97]⟩, .int .i64 x', .int .i64 y', .int .i64 z']) := HR_1.out
  go_region_with (go_at_call 21; refine (HM.out _ HT4d.out.src).mono ?_; rintro e w5 ⟨m, rfl, hs5, hb5⟩; have HT5 := Lib.hid (HT4d.out.but hs5 hb5); have hr5 := hb5.row HR4d.out hgp; obtain ⟨d0, d1, d2, d3, d4, d5, d6, d7⟩ := row4 hr5; obtain ⟨r0, r1, r2, r3, r4, r5, r6, r7⟩ := row4 HT5.out.res; clear hs5 hb5 hr5)
  all_goals
    go_wp2_with fail
    have f1 := rowSet4 HT5.out.res (.string ⟨#[98, 97]⟩) (.int .i64 x') (.int .i64 y') (.int .i64 z')
    have f2 := HT5.out.low.trans (set4_below w5 w.heap.size (.string ⟨#[98, 97]⟩) (.int .i64 x') (.int .i64 y') (.int .i64 z'))
    generalize ((((w5.setCell ⟨w.heap.size, 0, none⟩ (.string ⟨#[98, 97]⟩)).setCell ⟨w.heap.size, 1, none⟩ (.int .i64 x')).setCell ⟨w.heap.size, 2, none⟩ (.int .i64 y')).setCell ⟨w.heap.size, 3, none⟩ (.int .i64 z')) = W9 at f1 f2 ⊢
    obtain ⟨t0, t1, t2, t3, _⟩ := row4 f1
    exact bodyPost_ret (v := .tuple #[.agg #[.string ⟨#[98, 97]⟩, .int .i64 x', .int .i64 y', .int .i64 z'], .int .i64 m0, .int .i64 m]) (by simp [results, Tryz.results5, go_sem, t0, t1, t2, t3]) rfl ⟨⟨#[98, 97]⟩, x', y', z', m0, m, by decide, rfl, f2⟩
end Go.Proofs.YtlknncmnphbpkaaGreatDoor.BdrB
