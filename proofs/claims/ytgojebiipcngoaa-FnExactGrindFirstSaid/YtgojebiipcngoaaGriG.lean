/- The walk of the program's order of grinding, whole. -/
import Derived.Test.YtgojebiipcngoaaGriF
namespace Go.Proofs.Ytgojebiipcngoaa.GriG
set_option maxRecDepth 100000
open Go.RowKit Go.Proofs.Ytgojebiipcngoaa.Plain Go.Proofs.Ytgojebiipcngoaa.WalkA Go.Proofs.Ytgojebiipcngoaa.WalkB Go.Proofs.Ytgojebiipcngoaa.WalkC Go.Proofs.Ytgojebiipcngoaa.WalkF Go.Proofs.Ytgojebiipcngoaa.WalkH Go.Proofs.Ytgojebiipcngoaa.BndA Go.Proofs.Ytgojebiipcngoaa.BLaw Go.Proofs.Ytgojebiipcngoaa.BndC Go.Proofs.Ytgojebiipcngoaa.BlsA Go.Proofs.Ytgojebiipcngoaa.BlsD Go.Proofs.Ytgojebiipcngoaa.GriI Go.Proofs.Ytgojebiipcngoaa.GriP Go.Proofs.Ytgojebiipcngoaa.GriA Go.Proofs.Ytgojebiipcngoaa.GriC Go.Proofs.Ytgojebiipcngoaa.GriD Go.Proofs.Ytgojebiipcngoaa.GriE Go.Proofs.Ytgojebiipcngoaa.GriF

theorem boxes3 (w : World) (t1 t2 t3 : TypeId) (v1 v2 v3 : Value) :
    (((w.alloc (.cells #[v1] t1)).alloc (.cells #[v2] t2)).alloc (.cells #[v3] t3)).cell? ⟨w.heap.size, 0, none⟩ = some v1 ∧
    (((w.alloc (.cells #[v1] t1)).alloc (.cells #[v2] t2)).alloc (.cells #[v3] t3)).cell? ⟨w.heap.size + 1, 0, none⟩ = some v2 ∧
    (((w.alloc (.cells #[v1] t1)).alloc (.cells #[v2] t2)).alloc (.cells #[v3] t3)).cell? ⟨w.heap.size + 2, 0, none⟩ = some v3 ∧
    Below w.heap.size w (((w.alloc (.cells #[v1] t1)).alloc (.cells #[v2] t2)).alloc (.cells #[v3] t3)) ∧
    (((w.alloc (.cells #[v1] t1)).alloc (.cells #[v2] t2)).alloc (.cells #[v3] t3)).heap.size = w.heap.size + 3 := by
  have h3 := heap_alloc_new ((w.alloc (.cells #[v1] t1)).alloc (.cells #[v2] t2)) (.cells #[v3] t3)
  have h2 := heap_alloc_new (w.alloc (.cells #[v1] t1)) (.cells #[v2] t2)
  have h1 := heap_alloc_new w (.cells #[v1] t1)
  have b1 : Below (w.heap.size + 1) (w.alloc (.cells #[v1] t1)) ((w.alloc (.cells #[v1] t1)).alloc (.cells #[v2] t2)) := (Below.refl _ _).alloc (by simp) _
  have b2 : Below (w.heap.size + 2) ((w.alloc (.cells #[v1] t1)).alloc (.cells #[v2] t2)) (((w.alloc (.cells #[v1] t1)).alloc (.cells #[v2] t2)).alloc (.cells #[v3] t3)) := (Below.refl _ _).alloc (by simp) _
  have c1 := cell_of_row _ _ 0 _ _ _ h1
  have c2 := cell_of_row _ _ 0 _ _ _ h2
  have c3 := cell_of_row _ _ 0 _ _ _ h3
  have s1 : (w.alloc (.cells #[v1] t1)).heap.size = w.heap.size + 1 := by simp
  have s2 : ((w.alloc (.cells #[v1] t1)).alloc (.cells #[v2] t2)).heap.size = w.heap.size + 2 := by simp
  rw [s1] at c2
  rw [s2] at c3
  refine ⟨?_, ?_, c3, (((Below.refl w.heap.size w).alloc (Nat.le_refl _) _).alloc (by simp) _).alloc (by simp; omega) _, by simp⟩
  · exact (b2.cell (p := ⟨w.heap.size, 0, none⟩) (by show w.heap.size < _; omega)).trans ((b1.cell (p := ⟨w.heap.size, 0, none⟩) (by show w.heap.size < _; omega)).trans c1)
  · exact (b2.cell (p := ⟨w.heap.size + 1, 0, none⟩) (by show w.heap.size + 1 < _; omega)).trans c2
theorem toI_snoc (l : List Nat) (k : Nat) : toI (l ++ [k]) = toI l ++ [(k : Int)] := by simp [toI]
/-- The sort, of no index or of some. -/
theorem sort_any {W : World} {g1 g2 g3 c : Nat} {A : Option Addr} {bl : List Bnd} {a m lim : Int} {B ni cap : Nat} {A4 : Option Addr} (hlb : listB bl = true) (ra : inB a 0 1000000 = true) (rm : inB m 0 100000 = true) (h12 : bl.length ≤ 12) (hni : (toI (idx (gW bl a m) lim bl.length)).length = ni)
    (hnil : idx (gW bl a m) lim bl.length = [] → Value.slice A4 ni cap = .slice none 0 0) (ho : OwnI W B (.slice A4 ni cap) (toI (idx (gW bl a m) lim bl.length)))
    (hB : 0 < bl.length → ∃ b off, A = some ⟨b, off, none⟩ ∧ b < B ∧ Boxes W g1 g2 g3 b off c bl a m) (n1 : g1 < B) (n2 : g2 < B) (n3 : g3 < B) :
    Calls Try.prog 25 #[.slice A4 ni cap, cloV g1 g2 g3] W fun e w' => e = .returned (.tuple #[]) ∧ (OwnI w' B (.slice A4 ni cap) (toI (grTo (fW bl a m) lim bl.length)) ∧ Below B W w') := by
  have hL := idx_len (gW bl a m) lim bl.length
  rw [toI_len] at hni
  by_cases h0 : 0 < ni
  · obtain ⟨b, off, rfl, hb, hbx⟩ := hB (by omega)
    obtain ⟨g, cap2, e, _⟩ := ho.form (by rw [toI_len]; omega)
    injection e with e1 e2 e3
    subst e1; subst e3
    subst hni
    refine stab_any _ _ _ _ (by omega) _ _ ?_
    exact ins_own_any hbx hlb ra rm h12 ho h0 n1 n2 n3 hb
  · have hz : ni = 0 := by omega
    have he : idx (gW bl a m) lim bl.length = [] := List.length_eq_zero_iff.1 (by omega)
    have hv := hnil he
    injection hv with e1 e2 e3
    subst e1; subst e3; subst hz
    have hgr : grTo (fW bl a m) lim bl.length = [] := by
      rw [← gr_congr (n := bl.length) (fun i hi => gW_at hi) _ (Nat.le_refl _), ← idx_sorted, he]
      rfl
    rw [hgr]
    refine stab_any _ _ _ _ (by omega) _ _ ?_
    refine (ins_none _ _).mono ?_
    rintro e w' ⟨rfl, rfl⟩
    exact ⟨rfl, OwnI.none _ _, Below.refl _ _⟩
set_option maxHeartbeats 4000000 in
theorem implGrind_any (A : Option Addr) (n c : Nat) (bl : List Bnd) (a m lim : Int) (w : World) (hs : Bnds w w.heap.size A n bl) (hn : n ≤ 9223372036854775807) :
    Calls Try.prog 7 #[.slice A n c, .int .i64 a, .int .i64 m, .int .i64 lim] w (NewI w (grL bl a m lim) (grC bl a m lim)) := by
  have HO : Hid (∀ W, Below w.heap.size w W → Calls Try.prog 20 #[.slice A n c] W fun e w' => e = .returned (.bool (listB bl)) ∧ Below W.heap.size W w') := fun W hW => implListOk_any A n c bl W (hs.below hW hW.size) hn
  have HS := Lib.hid hs
  obtain ⟨rfl, _⟩ := hs
  obtain ⟨i0, hi, hz0, hz1, hz2⟩ := info_parts info_i64
  have HR := Lib.hid (fun x W => isRides_any x W)
  have HK := Lib.hid (fun x W => isLoad_any x W)
  have HE := Lib.hid (fun x W => isWear_any x W)
  obtain ⟨k1, k2, k3, k4, k5⟩ := boxes3 w 27 2 2 (.slice A bl.length c) (.int .i64 a) (.int .i64 m)
  have HB := Lib.hid k4
  have HV := Lib.hid (HO.out _ k4)
  have K5 := Lib.hid k5
  clear HO k4 k5
  cases hlb : listB bl
  · obtain ⟨e1, e2⟩ := gr_bad (a := a) (m := m) (lim := lim) hlb
    rw [hlb] at HV
    rw [e1, e2]
    clear e1 e2 hlb HR HK HE
    go_enter Try.func7, Try.ntmps7
    go_wp2_with fail
    refine HV.out.mono ?_
    rintro e w1 ⟨rfl, hb1⟩
    have HB1 := Lib.hid (HB.out.trans (hb1.mono (by have := K5.out; omega)))
    clear hb1
    go_wp2_with fail
    go_ret2
    exact ⟨_, rfl, OwnI.none _ _, HB1.out⟩
  · rw [hlb] at HV
    cases hr : grR a m lim
    · obtain ⟨e1, e2⟩ := gr_out (a := a) (m := m) (lim := lim) hlb hr
      rw [e1, e2]
      have hr2 := hr
      unfold grR at hr2
      have HR1 : Hid (∀ W, Calls Try.prog 21 #[.int .i64 a] W fun e w' => e = .returned (.bool (inB a 0 1000000)) ∧ W = w') := fun W => HR.out a W
      have HK1 : Hid (∀ W, Calls Try.prog 22 #[.int .i64 m] W fun e w' => e = .returned (.bool (inB m 0 100000)) ∧ W = w') := fun W => HK.out m W
      have HR2 : Hid (∀ W, Calls Try.prog 23 #[.int .i64 lim] W fun e w' => e = .returned (.bool (inB lim 0 1000000)) ∧ W = w') := fun W => HE.out lim W
      clear e1 e2 hr hlb HR HK HE
      generalize inB a 0 1000000 = p1 at *
      generalize inB m 0 100000 = p2 at *
      generalize inB lim 0 1000000 = p3 at *
      cases p1
      · clear hr2
        go_enter Try.func7, Try.ntmps7
        go_wp2_with fail
        refine HV.out.mono ?_
        rintro e w1 ⟨rfl, hb1⟩
        have HB1 := Lib.hid (HB.out.trans (hb1.mono (by have := K5.out; omega)))
        have j1 := (hb1.cell (p := ⟨w.heap.size, 0, none⟩) (by have := K5.out; show w.heap.size < _; omega)).trans k1
        have j2 := (hb1.cell (p := ⟨w.heap.size + 1, 0, none⟩) (by have := K5.out; show w.heap.size + 1 < _; omega)).trans k2
        have j3 := (hb1.cell (p := ⟨w.heap.size + 2, 0, none⟩) (by have := K5.out; show w.heap.size + 2 < _; omega)).trans k3
        have hz1' : w.heap.size + 3 ≤ w1.heap.size := by have := K5.out; have := hb1.size; omega
        clear hb1 k1 k2 k3
        go_wp2_with fail
        refine (HR1.out _).mono ?_
        rintro e w2 ⟨rfl, rfl⟩
        go_wp2_with fail
        go_ret2
        exact ⟨_, rfl, OwnI.none _ _, HB1.out⟩
      cases p2
      · clear hr2
        go_enter Try.func7, Try.ntmps7
        go_wp2_with fail
        refine HV.out.mono ?_
        rintro e w1 ⟨rfl, hb1⟩
        have HB1 := Lib.hid (HB.out.trans (hb1.mono (by have := K5.out; omega)))
        have j1 := (hb1.cell (p := ⟨w.heap.size, 0, none⟩) (by have := K5.out; show w.heap.size < _; omega)).trans k1
        have j2 := (hb1.cell (p := ⟨w.heap.size + 1, 0, none⟩) (by have := K5.out; show w.heap.size + 1 < _; omega)).trans k2
        have j3 := (hb1.cell (p := ⟨w.heap.size + 2, 0, none⟩) (by have := K5.out; show w.heap.size + 2 < _; omega)).trans k3
        have hz1' : w.heap.size + 3 ≤ w1.heap.size := by have := K5.out; have := hb1.size; omega
        clear hb1 k1 k2 k3
        go_wp2_with fail
        refine (HR1.out _).mono ?_
        rintro e w2 ⟨rfl, rfl⟩
        go_wp2_with fail
        refine (HK1.out _).mono ?_
        rintro e w2 ⟨rfl, rfl⟩
        go_wp2_with fail
        go_ret2
        exact ⟨_, rfl, OwnI.none _ _, HB1.out⟩
      cases p3
      · clear hr2
        go_enter Try.func7, Try.ntmps7
        go_wp2_with fail
        refine HV.out.mono ?_
        rintro e w1 ⟨rfl, hb1⟩
        have HB1 := Lib.hid (HB.out.trans (hb1.mono (by have := K5.out; omega)))
        have j1 := (hb1.cell (p := ⟨w.heap.size, 0, none⟩) (by have := K5.out; show w.heap.size < _; omega)).trans k1
        have j2 := (hb1.cell (p := ⟨w.heap.size + 1, 0, none⟩) (by have := K5.out; show w.heap.size + 1 < _; omega)).trans k2
        have j3 := (hb1.cell (p := ⟨w.heap.size + 2, 0, none⟩) (by have := K5.out; show w.heap.size + 2 < _; omega)).trans k3
        have hz1' : w.heap.size + 3 ≤ w1.heap.size := by have := K5.out; have := hb1.size; omega
        clear hb1 k1 k2 k3
        go_wp2_with fail
        refine (HR1.out _).mono ?_
        rintro e w2 ⟨rfl, rfl⟩
        go_wp2_with fail
        refine (HK1.out _).mono ?_
        rintro e w2 ⟨rfl, rfl⟩
        go_wp2_with fail
        refine (HR2.out _).mono ?_
        rintro e w2 ⟨rfl, rfl⟩
        go_wp2_with fail
        go_ret2
        exact ⟨_, rfl, OwnI.none _ _, HB1.out⟩
      · cases hr2
    · have hr2 := hr
      unfold grR at hr2
      rw [Bool.and_eq_true, Bool.and_eq_true] at hr2
      obtain ⟨ra, rm, rl⟩ := hr2
      obtain ⟨e1, e2⟩ := gr_ok (lim := lim) hlb hr
      have hl12 : bl.length ≤ 12 := by
        unfold listB at hlb
        rw [Bool.and_eq_true, decide_eq_true_eq] at hlb
        exact hlb.2
      have HW : Hid (∀ k W, k < bl.length → Calls Try.prog 24 #[.agg #[.string (bAt bl k).s, .int .i64 (bAt bl k).r, .int .i64 (bAt bl k).l, .int .i64 (bAt bl k).c], .int .i64 a, .int .i64 m] W fun e w' => e = .returned (.int .i64 (fW bl a m k)) ∧ Below W.heap.size W w') := fun k W hk => by
        obtain ⟨b1, _, _⟩ := (bendB_iff.1 (listB_at hlb k hk)).2
        have h1 := wear_any (bAt bl k).s (bAt bl k).r (bAt bl k).l (bAt bl k).c a m (by omega) (inB_iff.1 ra) (inB_iff.1 rm) W
        unfold fW
        exact h1
      rw [e1, e2]
      have HLB := Lib.hid hlb
      have HRA := Lib.hid ra
      have HRM := Lib.hid rm
      have HR1 : Hid (∀ W, Calls Try.prog 21 #[.int .i64 a] W fun e w' => e = .returned (.bool true) ∧ W = w') := fun W => by have h := HR.out a W; rw [ra] at h; exact h
      have HK1 : Hid (∀ W, Calls Try.prog 22 #[.int .i64 m] W fun e w' => e = .returned (.bool true) ∧ W = w') := fun W => by have h := HK.out m W; rw [rm] at h; exact h
      have HR2 : Hid (∀ W, Calls Try.prog 23 #[.int .i64 lim] W fun e w' => e = .returned (.bool true) ∧ W = w') := fun W => by have h := HE.out lim W; rw [rl] at h; exact h
      clear e1 e2 hr hlb ra rm rl HR HK HE
      go_enter Try.func7, Try.ntmps7
      go_wp2_with fail
      refine HV.out.mono ?_
      rintro e w1 ⟨rfl, hb1⟩
      have HB1 := Lib.hid (HB.out.trans (hb1.mono (by have := K5.out; omega)))
      have j1 := (hb1.cell (p := ⟨w.heap.size, 0, none⟩) (by have := K5.out; show w.heap.size < _; omega)).trans k1
      have j2 := (hb1.cell (p := ⟨w.heap.size + 1, 0, none⟩) (by have := K5.out; show w.heap.size + 1 < _; omega)).trans k2
      have j3 := (hb1.cell (p := ⟨w.heap.size + 2, 0, none⟩) (by have := K5.out; show w.heap.size + 2 < _; omega)).trans k3
      have hz1' : w.heap.size + 3 ≤ w1.heap.size := by have := K5.out; have := hb1.size; omega
      clear hb1 k1 k2 k3
      go_wp2_with fail
      refine (HR1.out _).mono ?_
      rintro e w2 ⟨rfl, rfl⟩
      go_wp2_with fail
      refine (HK1.out _).mono ?_
      rintro e w2 ⟨rfl, rfl⟩
      go_wp2_with fail
      refine (HR2.out _).mono ?_
      rintro e w2 ⟨rfl, rfl⟩
      have J1 := Lib.hid j1
      have J2 := Lib.hid j2
      have J3 := Lib.hid j3
      clear HV HB K5 HR1 HK1 HR2 hn
      go_wp2_with fail
      go_loopg [10, 31] bl.length (fun g1 v i wr => ∃ k : Nat, k ≤ bl.length ∧ bl.length - k ≤ g1 ∧ i = .int .i64 k ∧ Hid (idx (gW bl a m) lim k = [] → v = .slice none 0 0) ∧ Hid (OwnI wr w1.heap.size v (toI (idx (gW bl a m) lim k))) ∧ Hid (Below w1.heap.size w1 wr))
      case atStart => exact ⟨0, Nat.zero_le _, by omega, rfl, fun _ => rfl, OwnI.none _ _, Below.refl _ _⟩
      case round =>
        clear j1 j2 j3
        obtain ⟨k, hk, hg, rfl, HNI, HOV, HBR⟩ := hrel
        have j1 := (HBR.out.cell (p := ⟨w.heap.size, 0, none⟩) (by show w.heap.size < _; omega)).trans J1.out
        have j2 := (HBR.out.cell (p := ⟨w.heap.size + 1, 0, none⟩) (by show w.heap.size + 1 < _; omega)).trans J2.out
        have j3 := (HBR.out.cell (p := ⟨w.heap.size + 2, 0, none⟩) (by show w.heap.size + 2 < _; omega)).trans J3.out
        have hsz := HBR.out.size
        obtain ⟨ni, hni⟩ : ∃ ni, (toI (idx (gW bl a m) lim k)).length = ni := ⟨_, rfl⟩
        obtain ⟨A4, c4, rfl⟩ := OwnI.shape' hni HOV.out
        have HNI2 := Lib.hid hni
        have hni12 : ni ≤ 12 := by
          have := idx_len (gW bl a m) lim k
          rw [toI_len] at hni
          omega
        clear hni
        by_cases hlt : k < bl.length
        · obtain ⟨b, off, rfl, hb, hc⟩ := (HS.out.below (HB1.out.trans (HBR.out.mono (show w.heap.size ≤ w1.heap.size by omega))) (show w.heap.size ≤ wr.heap.size by omega)).2.2 (by omega)
          obtain ⟨q0, q1, q2, q3⟩ := hc k hlt
          have HWk := Lib.hid (fun W => HW.out k W hlt)
          have HG := Lib.hid (gW_at (a := a) (m := m) hlt)
          obtain ⟨NV, hNV⟩ : ∃ NV, NV = fW bl a m k := ⟨_, rfl⟩
          rw [← hNV] at HWk HG
          clear hc hNV
          generalize bAt bl k = y1 at *
          obtain ⟨s, r, l, q⟩ := y1
          have hki : (k : Int) < (bl.length : Int) := by omega
          obtain ⟨p0, p1, p2, p3, p4, p5⟩ := boxed4 wr 41 (.string s) (.int .i64 r) (.int .i64 l) (.int .i64 q)
          have m1 := (p4.cell (p := ⟨w.heap.size, 0, none⟩) (by show w.heap.size < _; omega)).trans j1
          have m2 := (p4.cell (p := ⟨w.heap.size + 1, 0, none⟩) (by show w.heap.size + 1 < _; omega)).trans j2
          have m3 := (p4.cell (p := ⟨w.heap.size + 2, 0, none⟩) (by show w.heap.size + 2 < _; omega)).trans j3
          have HP4 := Lib.hid p4
          have HP5 := Lib.hid p5
          clear p4 p5
          by_cases hle : NV ≤ lim
          · have HIX : Hid (idx (gW bl a m) lim (k + 1) = idx (gW bl a m) lim k) := idx_no (by rw [HG.out]; omega)
            go_wp2_with fail
            refine (HWk.out _).mono ?_
            rintro e w3 ⟨rfl, hb3⟩
            have HB3 := Lib.hid (HBR.out.trans (HP4.out.trans (hb3.mono (by have := HP5.out; omega)) |>.mono hsz))
            have HO3 : Hid (OwnI w3 w1.heap.size (.slice A4 ni c4) (toI (idx (gW bl a m) lim (k + 1)))) := by
              show OwnI _ _ _ _
              rw [HIX.out]
              exact HOV.out.below (HP4.out.trans (hb3.mono (by have := HP5.out; omega)))
            clear hb3
            go_wp2_with fail
            go_roundg (bl.length - (k + 1))
            case measure => omega
            case rel => exact ⟨k + 1, by omega, Nat.le_refl _, by go_num, by (show _ → _; rw [HIX.out]; exact HNI.out), HO3, HB3.out⟩
          · have HIX : Hid (idx (gW bl a m) lim (k + 1) = idx (gW bl a m) lim k ++ [k]) := idx_yes (by rw [HG.out]; omega)
            go_wp2_with fail
            refine (HWk.out _).mono ?_
            rintro e w3 ⟨rfl, hb3⟩
            have HB3 := Lib.hid (HP4.out.trans (hb3.mono (by have := HP5.out; omega)))
            have HOV3 := Lib.hid (HOV.out.below HB3.out)
            have HB4 := Lib.hid (HBR.out.trans (HB3.out.mono hsz))
            clear hb3
            have HOW4 : Hid (w3.ownsRow w1.heap.size 2 1 (.slice A4 ni c4) ni ((toI (idx (gW bl a m) lim k)).map (Value.int .i64))) := by
              have h1 := HOV3.out
              unfold OwnI at h1
              rw [HNI2.out] at h1
              exact h1
            have HNEW := Lib.hid (World.news_of_block (heap_alloc_new w3 (.cells #[.int .i64 (k : Int)] 2)))
            have hw13 := HB4.out.size
            have u1 : ni + 1 ≤ maxLen := by unfold maxLen; omega
            have u2 : (ni + 1) * 8 ≤ 140737488355328 := by omega
            go_wp2_with (at_builtin; refine wpList_append_lies _ rfl _ _ 24 rfl w1.heap.size 2 i0 (.int .i64 0) 1 8 Try.underlying24 hi hz0 hz1 hz2 rfl (by decide) _ ni ((toI (idx (gW bl a m) lim k)).map (Value.int .i64)) rfl (World.ownsRow.alloc HOW4.out _) ⟨w3.heap.size, 0, none⟩ 1 1 [.int .i64 (k : Int)] rfl rfl HNEW.out (one_ints [(k : Int)]) (by decide) u1 u2 (by simp; omega) _ rfl ?_)
            intro gc capc w5 hown hgrow hat hltc
            have HB5 : Hid (Below w1.heap.size w1 w5) := by
              have hg2 : Below w1.heap.size (w3.alloc (.cells #[.int .i64 (k : Int)] 2)) w5 := ⟨hgrow.os, hgrow.tape, hgrow.output, hgrow.size, fun q hq => hgrow.block q (by simp; omega) (fun e => by have := (World.ownsRow.lt HOW4.out q e.symm).1; omega)⟩
              exact HB4.out.trans (((Below.refl w1.heap.size w3).alloc hw13 _).trans hg2)
            have HOV5 : Hid (OwnI w5 w1.heap.size (.slice (some ⟨gc, 0, none⟩) (ni + 1) capc) (toI (idx (gW bl a m) lim (k + 1)))) := by
              show OwnI _ _ _ _
              rw [HIX.out, toI_snoc]
              exact OwnI.snoc' HNI2.out hown
            have HNN : Hid (idx (gW bl a m) lim (k + 1) = [] → Value.slice (some ⟨gc, 0, none⟩) (ni + 1) capc = .slice none 0 0) := fun h => by
              rw [HIX.out] at h
              simp at h
            clear hown hgrow hat
            go_wp2_with fail
            go_roundg (bl.length - (k + 1))
            case measure => omega
            case rel => exact ⟨k + 1, by omega, Nat.le_refl _, by go_num, HNN, HOV5, HB5⟩
        · have e : k = bl.length := by omega
          subst e
          have HBX : Hid (0 < bl.length → ∃ b off, A = some ⟨b, off, none⟩ ∧ b < w1.heap.size ∧ Boxes wr w.heap.size (w.heap.size + 1) (w.heap.size + 2) b off c bl a m) := fun h0 => by
            obtain ⟨b, off, rfl, hb, hc⟩ := HS.out.2.2 h0
            have hb2 := (HS.out.below (HB1.out.trans (HBR.out.mono (show w.heap.size ≤ w1.heap.size by omega))) (show w.heap.size ≤ wr.heap.size by omega)).2.2 h0
            obtain ⟨b', off', e, _, hc2⟩ := hb2
            injection e with e
            injection e with e1 e2
            subst e1; subst e2
            exact ⟨b, off, rfl, by omega, ⟨j1, j2, j3, by omega, by omega, by omega, by omega, hc2⟩⟩
          have HST := Lib.hid (sort_any (c := c) (A := A) (g1 := w.heap.size) (g2 := w.heap.size + 1) (g3 := w.heap.size + 2) HLB.out HRA.out HRM.out hl12 HNI2.out HNI.out HOV.out HBX.out (by omega) (by omega) (by omega))
          go_wp2_with fail
          refine HST.out.mono ?_
          rintro e w3 ⟨rfl, ho3, hb3⟩
          have HO3 := Lib.hid ho3
          have HB3 := Lib.hid hb3
          clear ho3 hb3
          go_wp2_with fail
          go_ret2
          exact ⟨_, rfl, HO3.out.mono (by omega), HB1.out.trans ((HBR.out.trans HB3.out).mono (by omega))⟩
end Go.Proofs.Ytgojebiipcngoaa.GriG
