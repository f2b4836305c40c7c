/- Sections of the same grade made one: the reference's walk. -/
import Derived.Test.YtnljdgmnmafopaaTrkT
import Derived.Deep.RegionLaw
import Derived.Deep.DrawnRows
namespace Go.Proofs.Ytnljdgmnmafopaa.TrkU
open Go.RowKit Go.Proofs.Ytnljdgmnmafopaa.Plain Go.Proofs.Ytnljdgmnmafopaa.TrkP Go.Proofs.Ytnljdgmnmafopaa.WalkA Go.Proofs.Ytnljdgmnmafopaa.TrkA Go.Proofs.Ytnljdgmnmafopaa.TrkB Go.Proofs.Ytnljdgmnmafopaa.TrkC Go.Proofs.Ytnljdgmnmafopaa.TrkD Go.Proofs.Ytnljdgmnmafopaa.TrkE Go.Proofs.Ytnljdgmnmafopaa.TrkR Go.Proofs.Ytnljdgmnmafopaa.TrkS Go.Proofs.Ytnljdgmnmafopaa.TrkT

attribute [local go_sem ↓] Go.wp_at_zero Go.wp_at_succ
theorem below_drew (W : World) (m B : Nat) : Below B W (W.drewN m) := drew_below rfl _
set_option maxHeartbeats 2000000 in
theorem specJoin_any (A : Option Addr) (n c : Nat) (lf lu : Int) (l : List (Int × Int)) (w : World) (hs : Secs w w.heap.size A n l) (hn : n ≤ 1048576) :
    Calls Try.prog 26 #[.agg #[.slice A n c, .int .i64 lf, .int .i64 lu]] w (NewTrk w (joinL l lf lu) (vI (trackB l lf lu) lf) (vI (trackB l lf lu) lu) (cI (trackB l lf lu))) := by
  have HS := Lib.hid (fun W (hW : Below w.heap.size w W) => hs.below hW (Nat.le_refl _))
  have HR := Lib.hid (rows_two w 30 30 #[.slice A n c, .int .i64 lf, .int .i64 lu] #[.slice none 0 0, .int .i64 0, .int .i64 0])
  have HB := Lib.hid (((Below.refl w.heap.size w).alloc (Nat.le_refl _) (.cells #[.slice A n c, .int .i64 lf, .int .i64 lu] 30)).alloc (by simp) (.cells #[.slice none 0 0, .int .i64 0, .int .i64 0] 30))
  have hz0 : ((w.alloc (.cells #[.slice A n c, .int .i64 lf, .int .i64 lu] 30)).alloc (.cells #[.slice none 0 0, .int .i64 0, .int .i64 0] 30)).heap.size = w.heap.size + 2 := by simp
  have HZ := Lib.hid hz0
  have HLN := Lib.hid hs.1
  obtain ⟨a0, a1, a2, _, _, _⟩ := HR.out.1.three
  have HO := Lib.hid (specOk_any w.heap.size A n c lf lu l w.heap.size _ a0 a1 a2 (HS.out _ HB.out) (Nat.le_trans hn (by decide)))
  clear hz0 hs a0 a1 a2
  cases hv : trackB l lf lu
  · rw [hv] at HO
    rw [joinL_no hv]
    go_enter Try.func26, Try.ntmps26
    go_wp2_with fail
    generalize (w.alloc (.cells #[.slice A n c, .int .i64 lf, .int .i64 lu] 30)).alloc (.cells #[.slice none 0 0, .int .i64 0, .int .i64 0] 30) = W0 at *
    refine HO.out.mono ?_
    rintro e w1 ⟨rfl, m, rfl⟩
    obtain ⟨r1, r2⟩ := HR.out
    obtain ⟨b0, b1, b2, b3, b4, b5⟩ := (r2.below (below_drew W0 m W0.heap.size) (by have := HZ.out; omega)).three
    have HB1 := Lib.hid (HB.out.trans (below_drew W0 m _))
    clear r1 r2
    go_wp2
    refine bodyPost_ret (v := .tuple #[.agg #[.slice none 0 0, .int .i64 0, .int .i64 0], .int .i64 1]) (by simp [results, Try.results26, go_sem, b0, b1, b2]) rfl ⟨none, 0, rfl, ⟨rfl, fun h => absurd h (by simp)⟩, ?_⟩
    exact ((HB1.out.setCell (by simp) _).setCell (by simp) _).setCell (by simp) _
  · rw [hv] at HO
    have hg := (trackB_iff.1 hv).good
    have HG := Lib.hid hg
    have hl12 := hg.1
    rw [joinL_yes hv]
    clear hg
    go_enter Try.func26, Try.ntmps26
    go_wp2_with fail
    generalize (w.alloc (.cells #[.slice A n c, .int .i64 lf, .int .i64 lu] 30)).alloc (.cells #[.slice none 0 0, .int .i64 0, .int .i64 0] 30) = W0 at *
    refine HO.out.mono ?_
    rintro e w1 ⟨rfl, m, rfl⟩
    obtain ⟨r1, r2⟩ := HR.out
    have hz := HZ.out
    have R1 := Lib.hid (r1.below (below_drew W0 m W0.heap.size) (by omega))
    have R2 := Lib.hid (r2.below (below_drew W0 m W0.heap.size) (by omega))
    have HB1 := Lib.hid (HB.out.trans (below_drew W0 m _))
    have h12 : w.heap.size + 1 < (W0.drewN m).heap.size := by show w.heap.size + 1 < W0.heap.size; omega
    generalize W0.drewN m = w1 at *
    obtain ⟨a0, a1, a2, _, _, _⟩ := R1.out.three
    clear r1 r2 hz
    have RL := Lib.hid (RowAt.new w1 30 #[.slice none 0 0, .int .i64 lf, .int .i64 lu])
    have HBL := Lib.hid ((Below.refl w1.heap.size w1).alloc (Nat.le_refl _) (.cells #[.slice none 0 0, .int .i64 lf, .int .i64 lu] 30))
    have hzl : (w1.alloc (.cells #[.slice none 0 0, .int .i64 lf, .int .i64 lu] 30)).heap.size = w1.heap.size + 1 := by simp
    have OL : Hid (∃ v, Out (w1.alloc (.cells #[.slice none 0 0, .int .i64 lf, .int .i64 lu] 30)) w1.heap.size v lf lu (joinTo l 0)) := ⟨_, RL.out, World.ownsRow_nil _ _ _ _, fun _ => rfl⟩
    clear RL
    have HZL := Lib.hid hzl
    clear hzl
    go_wp2
    generalize w1.alloc (.cells #[.slice none 0 0, .int .i64 lf, .int .i64 lu] 30) = WL at *
    have HBW := Lib.hid (HB1.out.trans (HBL.out.mono HB1.out.size))
    have R1L := Lib.hid (R1.out.below HBL.out (by omega))
    have R2L := Lib.hid (R2.out.below HBL.out h12)
    clear a0 a1 a2
    obtain ⟨i0, hi, hzz0, hzz1, hzz2⟩ := info_parts info_sec
    go_loopw [5] (fun i wr => ∃ k : Nat, k ≤ n ∧ i = .int .i64 k ∧ Hid (Below w1.heap.size WL wr) ∧ Hid (∃ v, Out wr w1.heap.size v lf lu (joinTo l k))) (fun i _ => n - (intOf i).toNat)
    case atStart => exact ⟨0, Nat.zero_le _, rfl, Below.refl _ _, OL⟩
    case round =>
      obtain ⟨k, hk, rfl, hbr, hout⟩ := hrel
      have HBR := Lib.hid (HBW.out.trans (hbr.out.mono HB1.out.size))
      obtain ⟨a0, _, _, _, _, _⟩ := (R1L.out.below hbr.out (by omega)).three
      obtain ⟨v, ho⟩ := hout.out
      by_cases hlt : k < n
      · obtain ⟨b, off, rfl, hb, hc⟩ := (HS.out _ HBR.out).2 (by omega)
        obtain ⟨c1, c2⟩ := hc k hlt
        clear hc
        have HJ1 : Hid (0 < (joinTo l k).length → secG (joinTo l k) ((joinTo l k).length - 1) = secG l k → joinTo l (k + 1) = (joinTo l k).set ((joinTo l k).length - 1) (secL (joinTo l k) ((joinTo l k).length - 1) + secL l k, secG (joinTo l k) ((joinTo l k).length - 1))) := join_same
        have HJ2 : Hid (¬ (0 < (joinTo l k).length ∧ secG (joinTo l k) ((joinTo l k).length - 1) = secG l k) → joinTo l (k + 1) = joinTo l k ++ [(secL l k, secG l k)]) := join_more
        have HBD := Lib.hid (joinTo_bd HG.out k (by rw [HLN.out]; exact hk))
        have hlk := joinTo_len l k
        have hk12 : k ≤ 12 := by have := HLN.out; omega
        have hto := (lenTo_bds HG.out k (by rw [HLN.out]; exact hk)).2
        have hxb := HG.out.2 k (by rw [HLN.out]; exact hlt)
        obtain ⟨x1, x2, _, _⟩ := hxb
        generalize secL l k = x at *
        generalize secG l k = y at *
        have hwr : w1.heap.size < wr.heap.size := by have := hbr.out.size; have := HZL.out; omega
        generalize joinTo l k = acc at *
        have HOW : Hid (Out wr w1.heap.size v lf lu acc) := ho
        obtain ⟨o0, o1, o2, o3, o4, o5⟩ := HOW.out.1.three
        clear ho
        by_cases h0 : acc.length = 0
        · have hv0 := HOW.out.2.2 h0
          subst hv0
          have HA := Lib.hid (HJ2.out (fun h => by omega))
          clear HJ1 HJ2 h0
          go_wp2
          go_quiet (fail)
          go_wp2
          have m1 : acc.length + 1 ≤ maxLen := by unfold maxLen; omega
          have oA := fun m => ((below_drew_alloc wr m (.cells #[.int .i64 x, .int .i64 y] 60)).cell (p := ⟨w1.heap.size, 0, none⟩) hwr).trans o0
          have m2 : (acc.length + 1) * 16 ≤ 140737488355328 := by omega
          go_region_law ((refine step_append_lies _ (by rfl) (.tmp 60) (.tmp 66) 28 (by rfl) (w1.heap.size + 1) 60 i0 (.agg #[.int .i64 0, .int .i64 0]) 2 16 Try.underlying28 hi hzz0 hzz1 hzz2 rfl (by decide) _ acc.length (flat acc) (by rfl) (World.ownsRow.alloc (w := wr.drewN _) HOW.out.2.1 _) ⟨_, 0, none⟩ 1 1 [.int .i64 x, .int .i64 y] (by rfl) (by rfl) (World.news_of_block (RowAt.new (wr.drewN _) 60 #[.int .i64 x, .int .i64 y])) (flat_one [(x, y)]) (by decide) m1 m2 (by simp; omega) _ rfl ?_; intro g' cap' w2 hown hgrow hat hlt2; obtain ⟨⟨t0, t1⟩, t2, t3⟩ := HOW.out.append (more := [(x, y)]) (by simp) ((below_drew_alloc wr _ _).mono (by omega)) (by simp; omega) HOW.out.own hgrow hown; obtain ⟨f0, f1, f2, f3, f4, f5⟩ := t0.three; have T2 := Lib.hid t2; have T3 := Lib.hid (hbr.out.trans t3); clear t0 t1 t2 t3 hown hgrow hat))
          all_goals
            go_wp2
            go_roundw
            case rel => exact ⟨k + 1, by omega, by go_num, T3.out, _, by rw [HA.out]; exact T2.out⟩
            case measure => simp [intOf]; omega
        · obtain ⟨g, cap, rfl, hg1, hg2⟩ := HOW.out.form (by omega)
          have hn0 : 0 < acc.length := by omega
          have hn1 : decide ((0 : Int) < (acc.length : Int)) = true := decide_eq_true (by omega)
          have i1 : IntKind.i64.wrap ((acc.length : Int) - 1) = (acc.length : Int) - 1 := IntWalk.i64_in _ (by omega)
          have i2 : (1 : Int) ≤ (acc.length : Int) := by omega
          have i3 : (acc.length : Int) - 1 < (acc.length : Int) := by omega
          have i4 : ((acc.length : Int) - 1).toNat = acc.length - 1 := by omega
          obtain ⟨u0, u1⟩ := flat_at acc (acc.length - 1) (by omega)
          have l0 := (HOW.out.2.1.cellAt ((acc.length - 1) * 2) (by omega)).trans u0
          have l1 := (HOW.out.2.1.cellAt ((acc.length - 1) * 2 + 1) (by omega)).trans u1
          have l2 := HOW.out.2.1.frozenAt ((acc.length - 1) * 2)
          have hg3 : w1.heap.size + 1 ≤ g := hg1
          clear u0 u1 h0
          by_cases he : secG acc (acc.length - 1) = y
          · have HA := Lib.hid (HJ1.out hn0 he)
            have hbd := HBD.out (acc.length - 1) (by omega)
            obtain ⟨d1, d2⟩ := hbd
            have hee : (secG acc (acc.length - 1) == y) = true := by rw [he]; simp
            clear HJ1 HJ2 he
            generalize hsl : secL acc (acc.length - 1) = sl at *
            generalize hsg : secG acc (acc.length - 1) = sg at *
            have HSL := Lib.hid hsl
            have HSG := Lib.hid hsg
            clear hsl hsg
            have i6 : IntKind.i64.wrap (sl + x) = sl + x := IntWalk.i64_in _ (by omega)
            go_wp2
            go_quiet (fail)
            go_wp2
            go_region
            go_wp2
            go_roundw
            case rel => exact ⟨k + 1, by omega, by go_num, hbr.out.trans (HOW.out.merge (W' := wr.drewN _) (sg := sg) (drew_below rfl _) hn0 hg3 HSG.out).2, _, by rw [HA.out]; exact (HOW.out.merge (W' := wr.drewN _) (sg := sg) (drew_below rfl _) hn0 hg3 HSG.out).1⟩
            case measure => simp [intOf]; omega
          · have HA := Lib.hid (HJ2.out (fun h => he h.2))
            have hee : (secG acc (acc.length - 1) == y) = false := by rw [beq_eq_false_iff_ne]; exact he
            clear HJ1 HJ2 he
            generalize secG acc (acc.length - 1) = sg at *
            go_wp2
            go_quiet (fail)
            go_wp2
            have m1 : acc.length + 1 ≤ maxLen := by unfold maxLen; omega
            have oA := fun m => ((below_drew_alloc wr m (.cells #[.int .i64 x, .int .i64 y] 60)).cell (p := ⟨w1.heap.size, 0, none⟩) hwr).trans o0
            have m2 : (acc.length + 1) * 16 ≤ 140737488355328 := by omega
            go_region_law ((refine step_append_lies _ (by rfl) (.tmp 60) (.tmp 66) 28 (by rfl) (w1.heap.size + 1) 60 i0 (.agg #[.int .i64 0, .int .i64 0]) 2 16 Try.underlying28 hi hzz0 hzz1 hzz2 rfl (by decide) _ acc.length (flat acc) (by rfl) (World.ownsRow.alloc (w := wr.drewN _) HOW.out.2.1 _) ⟨_, 0, none⟩ 1 1 [.int .i64 x, .int .i64 y] (by rfl) (by rfl) (World.news_of_block (RowAt.new (wr.drewN _) 60 #[.int .i64 x, .int .i64 y])) (flat_one [(x, y)]) (by decide) m1 m2 (by simp; omega) _ rfl ?_; intro g' cap' w2 hown hgrow hat hlt2; obtain ⟨⟨t0, t1⟩, t2, t3⟩ := HOW.out.append (more := [(x, y)]) (by simp) ((below_drew_alloc wr _ _).mono (by omega)) (by simp; omega) HOW.out.own hgrow hown; obtain ⟨f0, f1, f2, f3, f4, f5⟩ := t0.three; have T2 := Lib.hid t2; have T3 := Lib.hid (hbr.out.trans t3); clear t0 t1 t2 t3 hown hgrow hat))
            all_goals
              go_wp2
              go_roundw
              case rel => exact ⟨k + 1, by omega, by go_num, T3.out, _, by rw [HA.out]; exact T2.out⟩
              case measure => simp [intOf]; omega
      · have e : k = n := by omega
        subst e
        obtain ⟨A', c', rfl, hot⟩ := OwnT.of_row ho.2.1
        obtain ⟨o0, o1, o2, o3, o4, o5⟩ := ho.1.three
        have HOT2 : Hid (OwnT wr (w1.heap.size + 1) A' (joinTo l k).length (joinTo l k)) := hot
        obtain ⟨b0, b1, b2, b3, b4, b5⟩ := (R2L.out.below hbr.out h12).three
        clear ho hot
        go_wp2
        refine bodyPost_ret (v := .tuple #[.agg #[.slice A' (joinTo l k).length c', .int .i64 lf, .int .i64 lu], .int .i64 0]) (by simp [results, Try.results26, go_sem, b0, b1, b2]) rfl ?_
        rw [HLN.out]
        exact ⟨A', c', rfl, OwnT.mono (OwnT.set (OwnT.set (OwnT.set HOT2.out (show w.heap.size + 1 < w1.heap.size + 1 by omega) _) (show w.heap.size + 1 < w1.heap.size + 1 by omega) _) (show w.heap.size + 1 < w1.heap.size + 1 by omega) _) (by omega), ((HBR.out.setCell (by simp) _).setCell (by simp) _).setCell (by simp) _⟩
end Go.Proofs.Ytnljdgmnmafopaa.TrkU
