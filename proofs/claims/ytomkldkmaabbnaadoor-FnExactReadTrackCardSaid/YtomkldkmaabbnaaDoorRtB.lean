/- The walk of the reference's reading of a track. -/
import Derived.Test.YtomkldkmaabbnaaDoorRtA
namespace Go.Proofs.YtomkldkmaabbnaaDoor.RtB
set_option maxRecDepth 100000
open Go.RowKit Go.Proofs.YtomkldkmaabbnaaDoor.Plain Go.Proofs.YtomkldkmaabbnaaDoor.TrkP Go.Proofs.YtomkldkmaabbnaaDoor.WalkA Go.Proofs.YtomkldkmaabbnaaDoor.TrkA Go.Proofs.YtomkldkmaabbnaaDoor.TrkB Go.Proofs.YtomkldkmaabbnaaDoor.TrkC Go.Proofs.YtomkldkmaabbnaaDoor.TrkD Go.Proofs.YtomkldkmaabbnaaDoor.TrkE Go.Proofs.YtomkldkmaabbnaaDoor.TrkS Go.Proofs.YtomkldkmaabbnaaDoor.TrkT Go.Proofs.YtomkldkmaabbnaaDoor.TxtA Go.Proofs.YtomkldkmaabbnaaDoor.TxtG Go.Proofs.YtomkldkmaabbnaaDoor.TxtN Go.Proofs.YtomkldkmaabbnaaDoor.TxtS Go.Proofs.YtomkldkmaabbnaaDoor.TxtP Go.Proofs.YtomkldkmaabbnaaDoor.TxtQ Go.Proofs.YtomkldkmaabbnaaDoor.TxtX Go.Proofs.YtomkldkmaabbnaaDoor.TxtK Go.Proofs.YtomkldkmaabbnaaDoor.TkA Go.Proofs.YtomkldkmaabbnaaDoor.RtA
open Go.Proofs.YtomkldkmaabbnaaDoor.TxtH (OwnS)
open Go.Proofs.YtomkldkmaabbnaaDoor.TxtT (Shp Shp.below l01Split_any spl_le spl_pos)

def TW (x : ByteArray) (c : UInt8) (w : World) (e : Ending) (w' : World) : Prop :=
  ∃ a b : Int, e = .returned (.tuple #[.int .i64 a, .int .i64 b, .bool (twoB x c)]) ∧ (twoB x c = true → a = num (cutA x c) ∧ b = num (cutZ x c)) ∧ Below w.heap.size w w'
theorem l03Two_any (x : ByteArray) (c : UInt8) (hx : x.size ≤ 1048576) (w : World) : Calls Tryd.prog 10 #[.string x, .int .u8 (c.toNat : Int)] w (TW x c w) := by
  have HS := Lib.hid (l01Split_any x c hx w)
  by_cases h2 : (spl x c).length = 2
  · have HP := Lib.hid (two_parts h2)
    have HA := Lib.hid (fun W => l01Number_any (cutA x c) (Nat.le_trans (cut_len x c).1 hx) W)
    have HZ := Lib.hid (fun W => l01Number_any (cutZ x c) (Nat.le_trans (cut_len x c).2 hx) W)
    unfold NumS at HA HZ
    have HT : Hid (twoB x c = ((numP (dl (cutA x c))).2 && (numP (dl (cutZ x c))).2)) := by show _ = _; unfold twoB; rw [decide_eq_true h2, Bool.true_and]
    have HR : Hid (∀ w' a b, a = (numP (dl (cutA x c))).1 → b = (numP (dl (cutZ x c))).1 → Below w.heap.size w w' → TW x c w (.returned (.tuple #[.int .i64 a, .int .i64 b, .bool ((numP (dl (cutA x c))).2 && (numP (dl (cutZ x c))).2)])) w') := fun w' a b ha hb h => ⟨a, b, by rw [HT.out], fun _ => ⟨ha, hb⟩, h⟩
    have HL := Lib.hid h2
    clear hx h2
    go_enter Tryd.func10, Tryd.ntmps10
    go_wp2_with fail
    refine HS.out.mono ?_
    rintro e w1 ⟨v, rfl, ho, hb⟩
    obtain ⟨g, cap, rfl, _, hg, hc⟩ := ho.form (by rw [HL.out]; omega)
    have c0 := hc 0 _ (by rw [HP.out]; rfl)
    have c1 := hc 1 _ (by rw [HP.out]; rfl)
    have HB := Lib.hid hb
    rw [HL.out]
    clear hc ho hb HP HT
    generalize (numP (dl (cutA x c))).2 = ca at *
    generalize (numP (dl (cutZ x c))).2 = cz at *
    generalize (numP (dl (cutA x c))).1 = X at *
    generalize (numP (dl (cutZ x c))).1 = Y at *
    generalize cutA x c = xa at *
    generalize cutZ x c = xz at *
    go_wp2_with fail
    refine (HA.out _).mono ?_
    rintro e w2 ⟨rfl, rfl⟩
    go_wp2_with fail
    refine (HZ.out _).mono ?_
    rintro e w2 ⟨rfl, rfl⟩
    cases ca
    all_goals
      go_wp2_with fail
      go_ret3
      exact HR.out _ _ _ rfl rfl HB.out
  · have HR : Hid (∀ w', Below w.heap.size w w' → TW x c w (.returned (.tuple #[.int .i64 0, .int .i64 0, .bool false])) w') := fun w' h => by
      have e : twoB x c = false := by unfold twoB; rw [decide_eq_false h2]; rfl
      exact ⟨0, 0, by rw [e], (fun h2 => by rw [e] at h2; cases h2), h⟩
    obtain ⟨k, hk⟩ : ∃ k, (spl x c).length = k := ⟨_, rfl⟩
    have HK := Lib.hid hk
    have hkl := spl_le x c
    rw [hk] at h2 hkl
    have hne : ((k : Int) == 2) = false := by rw [beq_eq_false_iff_ne]; omega
    clear hk h2
    go_enter Tryd.func10, Tryd.ntmps10
    go_wp2_with fail
    refine HS.out.mono ?_
    rintro e w1 ⟨v, rfl, ho, hb⟩
    obtain ⟨A, cp, rfl⟩ := TxtU.OwnS.shape ho
    rw [HK.out]
    have HB := Lib.hid hb
    clear hb ho
    go_wp2_with fail
    go_ret3
    exact HR.out _ HB.out
theorem loop_list : loopW.toList = [108, 111, 111, 112] := by kernel_rfl
theorem loop_yes : (loopW.toList == [108, 111, 111, 112]) = true := by rw [loop_list]; rfl
theorem all_snoc {xs : List ByteArray} {k : Nat} {x : ByteArray} (p : ByteArray → Bool) (h : xs[k]? = some x) (ha : (xs.take k).all p = true) (hx : p x = true) : (xs.take (k + 1)).all p = true := by
  rw [take_snoc' h, List.all_append, ha]
  simp [hx]
theorem all_bad {xs : List ByteArray} {k : Nat} {x : ByteArray} (p : ByteArray → Bool) (h : xs[k]? = some x) (hx : p x = false) : xs.all p = false := by
  cases he : xs.all p
  · rfl
  · have := List.all_eq_true.1 he x (List.mem_of_getElem? h)
    rw [hx] at this
    cases this
/-- What the reference keeps while it reads: its results' row, the words in block g. -/
structure KS (w : World) (P : List ByteArray) (g : Nat) (W : World) : Prop where
  res : TrkC.RowAt W w.heap.size 24 #[.slice none 0 0, .int .i64 0, .int .i64 0]
  below : Below w.heap.size w W
  words : ∀ (k : Nat) x, P[k]? = some x → W.cell? ⟨g, k, none⟩ = some (.string x)
  lt : g < W.heap.size
theorem KS.low {w W W' : World} {P : List ByteArray} {g B : Nat} (h : KS w P g W) (hb : Below B W W') (hB : w.heap.size < B) (hg : g < B) : KS w P g W' :=
  ⟨(hb.block _ (by omega)).trans h.res, h.below.trans (hb.mono (by omega)), fun k x hx => (hb.cell (p := ⟨g, k, none⟩) (by show g < B; omega)).trans (h.words k x hx), Nat.lt_of_lt_of_le h.lt hb.size⟩
set_option maxHeartbeats 2000000 in
theorem specReadTrack_any (s : ByteArray) (hs : s.size ≤ 1048576) (w : World) : Calls Tryd.prog 4 #[.string s] w (RT s w) := by
  obtain ⟨i0, hi, hz0, hz1, hz2⟩ := info_parts info_sec
  have HB0 := Lib.hid ((Below.refl w.heap.size w).alloc (Nat.le_refl _) (.cells #[.slice none 0 0, .int .i64 0, .int .i64 0] 24))
  have HROW0 := Lib.hid (TrkC.RowAt.new w 24 #[.slice none 0 0, .int .i64 0, .int .i64 0])
  have HS := Lib.hid (fun W => l01Split_any s 32 hs W)
  have hsl := spl_le s 32
  have HRS := Lib.hid (rt_same s)
  by_cases h3 : 3 ≤ (spl s 32).length
  · obtain ⟨N, hN⟩ : ∃ N, (spl s 32).length = N + 2 := ⟨(spl s 32).length - 2, by omega⟩
    have HN := Lib.hid hN
    have HSHAPE := Lib.hid (shape3 h3)
    have H3 := Lib.hid h3
    rw [hN] at hsl h3
    have HX0 : Hid ((spl s 32)[0]? = some (w0 s)) := by
      show (spl s 32)[0]? = some (w0 s)
      have := congrArg (fun l : List ByteArray => l[0]?) HSHAPE.out
      exact this
    have HX1 : Hid ((spl s 32)[1]? = some (w1 s)) := by
      show (spl s 32)[1]? = some (w1 s)
      have := congrArg (fun l : List ByteArray => l[1]?) HSHAPE.out
      exact this
    have HPL := Lib.hid (fun k x (h : (spl s 32)[k]? = some x) => part_le h)
    clear hN
    by_cases hw : w0 s = loopW
    · cases htw : twoB (w1 s) 44
      · have HNO := Lib.hid (fun W' hb => RT.no (s := s) (w := w) (w' := W') (by rw [← HRS.out]; unfold rsB; rw [htw, Bool.false_and, Bool.and_false, Bool.and_false]) hb)
        have HT : Hid (∀ W, Calls Tryd.prog 10 #[.string (TxtK.w1 s), .int .u8 44] W fun e w' => (∃ a b : Int, e = .returned (.tuple #[.int .i64 a, .int .i64 b, .bool false])) ∧ Below W.heap.size W w') := fun W => (l03Two_any (TxtK.w1 s) 44 (Nat.le_trans (HPL.out 1 _ HX1.out) hs) W).mono fun e w' ⟨a, b, he, _, hb⟩ => ⟨⟨a, b, by rw [he, htw]⟩, hb⟩
        go_enter Tryd.func4, Tryd.ntmps4
        go_wp2_with fail
        generalize w.alloc (.cells #[.slice none 0 0, .int .i64 0, .int .i64 0] 24) = W0 at *
        refine (HS.out _).mono ?_
        rintro e w1 ⟨v, rfl, ho, hb⟩
        obtain ⟨g, cap, rfl, _, hg, hc⟩ := ho.form (by rw [HN.out]; omega)
        rw [HN.out]
        have c0 : w1.cell? ⟨g, 0, none⟩ = some (.string (w0 s)) := hc 0 _ HX0.out
        have c1 : w1.cell? ⟨g, 1, none⟩ = some (.string (TxtK.w1 s)) := hc 1 _ HX1.out
        have HK1 := Lib.hid (HB0.out.trans (hb.mono HB0.out.size))
        have HR1 := Lib.hid (rowB HROW0.out hb HROW0.out.lt)
        clear hb hc ho
        have hlw := loop_yes
        rw [hw] at c0
        clear hw
        obtain ⟨lw, hlwe⟩ : ∃ x, x = loopW := ⟨_, rfl⟩
        rw [← hlwe] at hlw c0
        clear hlwe
        have hlt3 : ¬ (N : Int) + 2 < 3 := by omega
        go_wp2_with fail
        refine (HT.out _).mono ?_
        rintro e w2 ⟨⟨a, b, rfl⟩, hb2⟩
        have HB2 := Lib.hid (HK1.out.trans (hb2.mono HK1.out.size))
        have HR2 := Lib.hid (rowB HR1.out hb2 HR1.out.lt)
        clear hb2
        obtain ⟨r0, r1, r2, r3, r4, r5⟩ := HR2.out.three
        go_wp2_with fail
        have HS3 := rowSet3 HR2.out HB2.out (.slice none 0 0) (.int .i64 0) (.int .i64 0)
        generalize hW9 : (((w2.setCell ⟨w.heap.size, 0, none⟩ (.slice none 0 0)).setCell ⟨w.heap.size, 1, none⟩ (.int .i64 0)).setCell ⟨w.heap.size, 2, none⟩ (.int .i64 0)) = W9 at HS3 ⊢
        clear hW9
        obtain ⟨y0, y1, y2, _⟩ := HS3.1.three
        exact bodyPost_ret (v := .tuple #[.agg #[.slice none 0 0, .int .i64 0, .int .i64 0], .bool false]) (by simp [results, Tryd.results4, go_sem, y0, y1, y2]) rfl (HNO.out _ HS3.2)
      · have HW := Lib.hid hw
        go_enter Tryd.func4, Tryd.ntmps4
        go_wp2_with fail
        generalize w.alloc (.cells #[.slice none 0 0, .int .i64 0, .int .i64 0] 24) = W0 at *
        refine (HS.out _).mono ?_
        rintro e w1 ⟨v, rfl, ho, hb⟩
        obtain ⟨g, cap, rfl, _, hg, hc⟩ := ho.form (by rw [HN.out]; omega)
        have HC := Lib.hid hc
        rw [HN.out]
        have c0 : w1.cell? ⟨g, 0, none⟩ = some (.string (w0 s)) := hc 0 _ HX0.out
        have c1 : w1.cell? ⟨g, 1, none⟩ = some (.string (TxtK.w1 s)) := hc 1 _ HX1.out
        have HK1 := Lib.hid (HB0.out.trans (hb.mono HB0.out.size))
        have HR1 := Lib.hid (rowB HROW0.out hb HROW0.out.lt)
        clear hb hc ho
        have hlw := loop_yes
        rw [hw] at c0
        clear hw
        have HLW : Hid (∃ x, x = loopW) := ⟨_, rfl⟩
        obtain ⟨lw, hlwe⟩ := HLW.out
        rw [← hlwe] at hlw c0
        clear hlwe HLW
        have HT : Hid (∀ W, Calls Tryd.prog 10 #[.string (TxtK.w1 s), .int .u8 44] W fun e w' => e = .returned (.tuple #[.int .i64 (rtF s), .int .i64 (rtU s), .bool true]) ∧ Below W.heap.size W w') := fun W => (l03Two_any (TxtK.w1 s) 44 (Nat.le_trans (HPL.out 1 _ HX1.out) hs) W).mono fun e w' ⟨a, b, he, hab, hb⟩ => ⟨by obtain ⟨rfl, rfl⟩ := hab htw; rw [he, htw]; rfl, hb⟩
        have hlt3 : ¬ (N : Int) + 2 < 3 := by omega
        go_wp2_with fail
        refine (HT.out _).mono ?_
        rintro e w2 ⟨rfl, hb2⟩
        have HK2 : Hid (KS w (spl s 32) g w2) := (KS.mk HR1.out HK1.out (fun k x hx => by have := HC.out k x hx; rw [Nat.zero_add] at this; exact this) hg).low hb2 HR1.out.lt hg
        have b3 := (Below.refl w2.heap.size w2).alloc (Nat.le_refl _) (.cells #[.slice none 0 0, .int .i64 (rtF s), .int .i64 (rtU s)] 24)
        have HK3 := Lib.hid (HK2.out.low b3 HK2.out.res.lt HK2.out.lt)
        have HO3 : Hid (Out (w2.alloc (.cells #[.slice none 0 0, .int .i64 (rtF s), .int .i64 (rtU s)] 24)) w2.heap.size (.slice none 0 0) (rtF s) (rtU s) []) := ⟨TrkC.RowAt.new w2 _ _, ⟨rfl, .inl ⟨rfl, rfl⟩⟩, fun _ => rfl⟩
        have hrt := HK2.out.res.lt
        have hgt := HK2.out.lt
        clear hb2 b3 HK2 c0 c1 HK1 HR1 HC HT
        go_wp2_with fail
        generalize w2.alloc (.cells #[.slice none 0 0, .int .i64 (rtF s), .int .i64 (rtU s)] 24) = W3 at *
        generalize w2.heap.size = tb at *
        go_loopw [9] (fun i wr => ∃ (k : Nat) (v : Value) (acc : List (Int × Int)), k ≤ N ∧ Hid (acc.length = k) ∧ i = .int .i64 ((k : Int) + 2) ∧ Hid (acc = (((spl s 32).drop 2).take k).map secOfW) ∧ Hid ((((spl s 32).drop 2).take k).all (fun x => twoB x 64) = true) ∧ Hid (KS w (spl s 32) g wr) ∧ Hid (Out wr tb v (rtF s) (rtU s) acc)) (fun i _ => N + 2 - (intOf i).toNat)
        case atStart => exact ⟨0, .slice none 0 0, [], Nat.zero_le _, rfl, rfl, rfl, rfl, HK3, HO3⟩
        case round =>
          obtain ⟨k, v, acc, hk, hacc, rfl, HACC, HALL, HK, HO⟩ := hrel
          by_cases hlt : k < N
          · obtain ⟨x, hx⟩ : ∃ x, (spl s 32)[k + 2]? = some x := ⟨_, List.getElem?_eq_getElem (by rw [HN.out]; omega)⟩
            have q1 := HK.out.words _ _ hx
            have hx2 : ((spl s 32).drop 2)[k]? = some x := by rw [List.getElem?_drop, Nat.add_comm]; exact hx
            have HX2 := Lib.hid hx2
            have hxs : x.size ≤ 1048576 := Nat.le_trans (HPL.out _ _ hx) hs
            have HTW := Lib.hid (fun W => l03Two_any x 64 hxs W)
            unfold TW at HTW
            have hi1 : (k : Int) + 2 < (N : Int) + 2 := by omega
            have hi2 : ((k : Int) + 2).toNat = k + 2 := by omega
            have hi3 : (0 : Int) ≤ (k : Int) + 2 := by omega
            clear hx hx2
            cases htx : twoB x 64
            · have HNO := Lib.hid (fun W' hb => RT.no (s := s) (w := w) (w' := W') (by rw [← HRS.out]; unfold rsB; rw [all_bad (fun x => twoB x 64) HX2.out htx, Bool.false_and, Bool.and_false, Bool.and_false, Bool.and_false]) hb)
              rw [htx] at HTW
              clear htx
              go_wp2_with fail
              refine (HTW.out _).mono ?_
              rintro e w4 ⟨a, b, rfl, _, hb4⟩
              have HK4 := Lib.hid (HK.out.low hb4 HK.out.res.lt HK.out.lt)
              clear hb4
              obtain ⟨r0, r1, r2, r3, r4, r5⟩ := HK4.out.res.three
              go_wp2_with fail
              have HS3 := rowSet3 HK4.out.res HK4.out.below (.slice none 0 0) (.int .i64 0) (.int .i64 0)
              generalize hW9 : (((w4.setCell ⟨w.heap.size, 0, none⟩ (.slice none 0 0)).setCell ⟨w.heap.size, 1, none⟩ (.int .i64 0)).setCell ⟨w.heap.size, 2, none⟩ (.int .i64 0)) = W9 at HS3 ⊢
              clear hW9
              obtain ⟨y0, y1, y2, _⟩ := HS3.1.three
              exact bodyPost_ret (v := .tuple #[.agg #[.slice none 0 0, .int .i64 0, .int .i64 0], .bool false]) (by simp [results, Tryd.results4, go_sem, y0, y1, y2]) rfl (HNO.out _ HS3.2)
            · have HTW2 : Hid (∀ W, Calls Tryd.prog 10 #[.string x, .int .u8 64] W fun e w' => e = .returned (.tuple #[.int .i64 (secOfW x).1, .int .i64 (secOfW x).2, .bool true]) ∧ Below W.heap.size W w') := fun W => (HTW.out W).mono fun e w' ⟨a, b, he, hab, hb⟩ => ⟨by obtain ⟨rfl, rfl⟩ := hab htx; rw [he, htx]; rfl, hb⟩
              have HAL := Lib.hid (all_snoc (fun x => twoB x 64) HX2.out HALL.out htx)
              have HSW : Hid (secOfW x = ((secOfW x).1, (secOfW x).2)) := rfl
              clear HTW htx
              generalize (secOfW x).1 = X at *
              generalize (secOfW x).2 = Y at *
              go_wp2_with fail
              refine (HTW2.out _).mono ?_
              rintro e w4 ⟨rfl, hb4⟩
              have HK4 := Lib.hid (HK.out.low hb4 HK.out.res.lt HK.out.lt)
              have HO4 := Lib.hid (HO.out.below hb4)
              clear hb4
              obtain ⟨d0, d1, d2, _, _, _⟩ := HO4.out.1.three
              have HOWN := Lib.hid HO4.out.2.1
              have m1 : acc.length + 1 ≤ maxLen := by have := hacc.out; unfold maxLen; omega
              have m2 : (acc.length + 1) * 16 ≤ 140737488355328 := by have := hacc.out; omega
              have HNEW := Lib.hid (World.news_of_block (TrkC.RowAt.new w4 35 #[.int .i64 X, .int .i64 Y]))
              have hsz5 : tb < w4.heap.size := HO4.out.lt
              go_wp2_with (at_builtin; refine wpList_append_lies _ rfl _ _ 22 rfl (tb + 1) 35 i0 (.agg #[.int .i64 0, .int .i64 0]) 2 16 Tryd.underlying22 hi hz0 hz1 hz2 rfl (by decide) _ acc.length (flat acc) rfl (World.ownsRow.alloc HOWN.out _) ⟨_, 0, none⟩ 1 1 [.int .i64 X, .int .i64 Y] rfl rfl HNEW.out (flat_one [(X, Y)]) (by decide) m1 m2 (by simp; omega) _ rfl ?_)
              intro gc capc w13 hown hgrow hat hltc
              obtain ⟨⟨t0, t1⟩, t2, t3⟩ := HO4.out.append (more := [(X, Y)]) (by simp) (((Below.refl _ _).alloc (Nat.le_refl _) _ : Below w4.heap.size _ (w4.alloc (.cells #[.int .i64 X, .int .i64 Y] 35))).mono (HO4.out.lt)) (by have := HO4.out.lt; simp; omega) HO4.out.own hgrow hown
              have HKN := Lib.hid (HK4.out.low t3 hrt hgt)
              have HON := Lib.hid t2
              obtain ⟨r0, _, _, r3, _, _⟩ := t0.three
              have HAN : Hid (acc ++ [(X, Y)] = (((spl s 32).drop 2).take (k + 1)).map secOfW) := by
                show _ = _
                rw [take_snoc' HX2.out, List.map_append, List.map_singleton, HSW.out, ← HACC.out]
              clear t0 t1 t2 t3 hown hgrow hat d0 d1 d2 q1
              go_wp2
              go_roundw
              case rel => exact ⟨k + 1, _, acc ++ [(X, Y)], by omega, by show _ = _; rw [List.length_append, List.length_singleton, hacc.out], by go_num, HAN, HAL, HKN, HON⟩
              case measure => simp [intOf]; omega
          · have e : k = N := by omega
            subst e
            have eT : (((spl s 32).drop 2).take k) = (spl s 32).drop 2 := List.take_of_length_le (by rw [List.length_drop, HN.out]; omega)
            have HL : Hid (acc = rtL s) := by
              show acc = rtL s
              unfold rtL
              rw [HACC.out, eT]
            have HAA : Hid (((spl s 32).drop 2).all (fun x => twoB x 64) = true) := by
              have := HALL.out
              rw [eT] at this
              exact this
            obtain ⟨Av, cv, rfl, hot⟩ := OwnT.of_row HO.out.2.1
            have HOT := Lib.hid hot
            have hl1 : acc.length ≤ 1048576 := by have := hacc.out; omega
            obtain ⟨d0, d1, d2, d3, d4, d5⟩ := HO.out.1.three
            have HV := Lib.hid (specOk_any tb Av acc.length cv (rtF s) (rtU s) acc wr.heap.size wr d0 d1 d2 HOT.out.secs (by omega))
            obtain ⟨r0, r1, r2, r3, r4, r5⟩ := HK.out.res.three
            have htr := HO.out.lt
            have hi1 : ¬ (k : Int) + 2 < (k : Int) + 2 := by omega
            clear hot eT
            cases hv : trackB acc (rtF s) (rtU s)
            · have HNO := Lib.hid (fun W' hb => RT.no (s := s) (w := w) (w' := W') (by rw [← HRS.out]; unfold rsB; rw [← HL.out, hv, Bool.and_false, Bool.and_false, Bool.and_false, Bool.and_false]) hb)
              rw [hv] at HV
              clear hv
              go_wp2_with fail
              refine HV.out.mono ?_
              rintro e w21 ⟨rfl, m, rfl⟩
              go_wp2_with fail
              have HS3 := rowSet3 (rowB HK.out.res (drew_below (m := m) rfl _) HK.out.res.lt) (HK.out.below.trans (drew_below (m := m) rfl _)) (.slice none 0 0) (.int .i64 0) (.int .i64 0)
              generalize hW9 : ((((wr.drewN m).setCell ⟨w.heap.size, 0, none⟩ (.slice none 0 0)).setCell ⟨w.heap.size, 1, none⟩ (.int .i64 0)).setCell ⟨w.heap.size, 2, none⟩ (.int .i64 0)) = W9 at HS3 ⊢
              clear hW9
              obtain ⟨y0, y1, y2, _⟩ := HS3.1.three
              exact bodyPost_ret (v := .tuple #[.agg #[.slice none 0 0, .int .i64 0, .int .i64 0], .bool false]) (by simp [results, Tryd.results4, go_sem, y0, y1, y2]) rfl (HNO.out _ HS3.2)
            · have HYES := Lib.hid (fun W' A n c (hn : n = (rtL s).length) ho hb => RT.yes (s := s) (w := w) (w' := W') (A := A) (n := n) (c := c) (by
                rw [← HRS.out]
                unfold rsB
                rw [← HL.out, hv, HAA.out, htw, decide_eq_true H3.out, decide_eq_true HW.out]
                rfl) hn ho hb)
              rw [hv] at HV
              clear hv
              go_wp2_with fail
              refine HV.out.mono ?_
              rintro e w21 ⟨rfl, m, rfl⟩
              go_wp2_with fail
              have HO3 := ownSet3 (w := w) (HOT.out.below (drew_below (m := m) rfl _)) (by omega) (.slice Av acc.length cv) (.int .i64 (rtF s)) (.int .i64 (rtU s))
              have HS3 := rowSet3 (rowB HK.out.res (drew_below (m := m) rfl _) HK.out.res.lt) (HK.out.below.trans (drew_below (m := m) rfl _)) (.slice Av acc.length cv) (.int .i64 (rtF s)) (.int .i64 (rtU s))
              generalize hW9 : ((((wr.drewN m).setCell ⟨w.heap.size, 0, none⟩ (.slice Av acc.length cv)).setCell ⟨w.heap.size, 1, none⟩ (.int .i64 (rtF s))).setCell ⟨w.heap.size, 2, none⟩ (.int .i64 (rtU s))) = W9 at HS3 HO3 ⊢
              clear hW9
              obtain ⟨y0, y1, y2, _⟩ := HS3.1.three
              exact bodyPost_ret (v := .tuple #[.agg #[.slice Av acc.length cv, .int .i64 (rtF s), .int .i64 (rtU s)], .bool true]) (by simp [results, Tryd.results4, go_sem, y0, y1, y2]) rfl (HYES.out _ _ _ _ (by rw [HL.out]) (by rw [← HL.out]; exact HO3) HS3.2)
    · have HNO := Lib.hid (fun W' hb => RT.no (s := s) (w := w) (w' := W') (by rw [← HRS.out]; unfold rsB; rw [decide_eq_false hw, Bool.false_and, Bool.and_false]) hb)
      have hne : ((w0 s).toList == [108, 111, 111, 112]) = false := by have := list_ne hw; rw [loop_list] at this; exact this
      clear hw
      go_enter Tryd.func4, Tryd.ntmps4
      go_wp2_with fail
      generalize w.alloc (.cells #[.slice none 0 0, .int .i64 0, .int .i64 0] 24) = W0 at *
      refine (HS.out _).mono ?_
      rintro e w1 ⟨v, rfl, ho, hb⟩
      obtain ⟨g, cap, rfl, _, hg, hc⟩ := ho.form (by rw [HN.out]; omega)
      rw [HN.out]
      have c0 : w1.cell? ⟨g, 0, none⟩ = some (.string (w0 s)) := hc 0 _ HX0.out
      have HK1 := Lib.hid (HB0.out.trans (hb.mono HB0.out.size))
      have HR1 := Lib.hid (rowB HROW0.out hb HROW0.out.lt)
      clear hb hc ho
      obtain ⟨r0, r1, r2, r3, r4, r5⟩ := HR1.out.three
      have hlt3 : ¬ (N : Int) + 2 < 3 := by omega
      go_wp2_with fail
      have HS3 := rowSet3 HR1.out HK1.out (.slice none 0 0) (.int .i64 0) (.int .i64 0)
      generalize hW9 : (((w1.setCell ⟨w.heap.size, 0, none⟩ (.slice none 0 0)).setCell ⟨w.heap.size, 1, none⟩ (.int .i64 0)).setCell ⟨w.heap.size, 2, none⟩ (.int .i64 0)) = W9 at HS3 ⊢
      clear hW9
      obtain ⟨y0, y1, y2, _⟩ := HS3.1.three
      exact bodyPost_ret (v := .tuple #[.agg #[.slice none 0 0, .int .i64 0, .int .i64 0], .bool false]) (by simp [results, Tryd.results4, go_sem, y0, y1, y2]) rfl (HNO.out _ HS3.2)
  · have HNO := Lib.hid (fun W' hb => RT.no (s := s) (w := w) (w' := W') (by rw [← HRS.out]; unfold rsB; rw [decide_eq_false h3]; rfl) hb)
    obtain ⟨N, hN⟩ : ∃ N, (spl s 32).length = N := ⟨_, rfl⟩
    have HN := Lib.hid hN
    rw [hN] at h3 hsl
    clear hN
    go_enter Tryd.func4, Tryd.ntmps4
    go_wp2_with fail
    generalize w.alloc (.cells #[.slice none 0 0, .int .i64 0, .int .i64 0] 24) = W0 at *
    refine (HS.out _).mono ?_
    rintro e w1 ⟨v, rfl, ho, hb⟩
    obtain ⟨Ax, cx, rfl⟩ := TxtU.OwnS.shape ho
    rw [HN.out]
    have HK1 := Lib.hid (HB0.out.trans (hb.mono HB0.out.size))
    have HR1 := Lib.hid (rowB HROW0.out hb HROW0.out.lt)
    clear hb ho
    obtain ⟨r0, r1, r2, r3, r4, r5⟩ := HR1.out.three
    have hlt3 : (N : Int) < 3 := by omega
    have hdl : decide ((N : Int) < 3) = true := decide_eq_true hlt3
    go_wp2_with fail
    have HS3 := rowSet3 HR1.out HK1.out (.slice none 0 0) (.int .i64 0) (.int .i64 0)
    generalize hW9 : (((w1.setCell ⟨w.heap.size, 0, none⟩ (.slice none 0 0)).setCell ⟨w.heap.size, 1, none⟩ (.int .i64 0)).setCell ⟨w.heap.size, 2, none⟩ (.int .i64 0)) = W9 at HS3 ⊢
    clear hW9
    obtain ⟨y0, y1, y2, _⟩ := HS3.1.three
    exact bodyPost_ret (v := .tuple #[.agg #[.slice none 0 0, .int .i64 0, .int .i64 0], .bool false]) (by simp [results, Tryd.results4, go_sem, y0, y1, y2]) rfl (HNO.out _ HS3.2)
end Go.Proofs.YtomkldkmaabbnaaDoor.RtB
