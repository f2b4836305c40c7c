/- A track from the top: the reference's walk. -/
import Derived.Test.YtnljdgmnmafopaaTrkY0
import Derived.Deep.RegionLaw
import Derived.Deep.DrawnRows
namespace Go.Proofs.Ytnljdgmnmafopaa.TrkZ
open Go.RowKit Go.Proofs.Ytnljdgmnmafopaa.Plain Go.Proofs.Ytnljdgmnmafopaa.TrkP Go.Proofs.Ytnljdgmnmafopaa.WalkA Go.Proofs.Ytnljdgmnmafopaa.TrkA Go.Proofs.Ytnljdgmnmafopaa.TrkB Go.Proofs.Ytnljdgmnmafopaa.TrkC Go.Proofs.Ytnljdgmnmafopaa.TrkD Go.Proofs.Ytnljdgmnmafopaa.TrkE Go.Proofs.Ytnljdgmnmafopaa.TrkR Go.Proofs.Ytnljdgmnmafopaa.TrkS Go.Proofs.Ytnljdgmnmafopaa.TrkT Go.Proofs.Ytnljdgmnmafopaa.TrkY0

attribute [local go_sem ↓] Go.wp_at_zero Go.wp_at_succ
theorem val_int2 {a b : Int} (h : a = b) : Value.int .i64 a = .int .i64 b := by rw [h]
theorem rv_step {l : List (Int × Int)} {j : Nat} (h0 : 0 < j) (hj : j ≤ l.length) : (l.drop (j - 1)).reverse = (l.drop j).reverse ++ [(secL l (j - 1), secG l (j - 1))] := by
  have e : l.drop (j - 1) = l[j - 1]'(by omega) :: l.drop (j - 1 + 1) := List.drop_eq_getElem_cons (by omega)
  rw [e, show j - 1 + 1 = j by omega, List.reverse_cons]
  congr 1
  simp [secL, secG, show j - 1 < l.length by omega]
theorem below_drew (W : World) (m B : Nat) : Below B W (W.drewN m) := drew_below rfl _
set_option maxHeartbeats 2000000 in
theorem specTurn_any (A : Option Addr) (n c : Nat) (lf lu : Int) (l : List (Int × Int)) (w : World) (hs : Secs w w.heap.size A n l) (hn : n ≤ 1048576) :
    Calls Try.prog 30 #[.agg #[.slice A n c, .int .i64 lf, .int .i64 lu]] w (NewTrk w (turnL l lf lu) (turnF l lf lu) (turnU l lf lu) (cI (trackB l lf lu))) := by
  have HS := Lib.hid (fun W (hW : Below w.heap.size w W) => hs.below hW (Nat.le_refl _))
  have HR := Lib.hid (rows_two w 30 30 #[.slice A n c, .int .i64 lf, .int .i64 lu] #[.slice none 0 0, .int .i64 0, .int .i64 0])
  have HB := Lib.hid (((Below.refl w.heap.size w).alloc (Nat.le_refl _) (.cells #[.slice A n c, .int .i64 lf, .int .i64 lu] 30)).alloc (by simp) (.cells #[.slice none 0 0, .int .i64 0, .int .i64 0] 30))
  have hz0 : ((w.alloc (.cells #[.slice A n c, .int .i64 lf, .int .i64 lu] 30)).alloc (.cells #[.slice none 0 0, .int .i64 0, .int .i64 0] 30)).heap.size = w.heap.size + 2 := by simp
  have HZ := Lib.hid hz0
  have HLN := Lib.hid hs.1
  obtain ⟨a0, a1, a2, _, _, _⟩ := HR.out.1.three
  have HO := Lib.hid (specOk_any w.heap.size A n c lf lu l w.heap.size _ a0 a1 a2 (HS.out _ HB.out) (Nat.le_trans hn (by decide)))
  clear hz0 hs a0 a1 a2
  cases hv : trackB l lf lu
  · have HF := Lib.hid (turn_bad hv)
    rw [hv] at HO HF
    go_enter Try.func30, Try.ntmps30
    go_wp2_with fail
    generalize (w.alloc (.cells #[.slice A n c, .int .i64 lf, .int .i64 lu] 30)).alloc (.cells #[.slice none 0 0, .int .i64 0, .int .i64 0] 30) = W0 at *
    refine HO.out.mono ?_
    rintro e w1 ⟨rfl, m, rfl⟩
    obtain ⟨r1, r2⟩ := HR.out
    obtain ⟨b0, b1, b2, b3, b4, b5⟩ := (r2.below (below_drew W0 m W0.heap.size) (by have := HZ.out; omega)).three
    have HB1 := Lib.hid (HB.out.trans (below_drew W0 m _))
    clear r1 r2
    go_wp2
    refine bodyPost_ret (v := .tuple #[.agg #[.slice none 0 0, .int .i64 0, .int .i64 0], .int .i64 1]) (by simp [results, Try.results30, go_sem, b0, b1, b2]) rfl ?_
    refine NewTrk.as (l' := []) ⟨none, 0, rfl, ⟨rfl, fun h => absurd h (by simp)⟩, ?_⟩ HF.out
    exact ((HB1.out.setCell (by simp) _).setCell (by simp) _).setCell (by simp) _
  · have HF := Lib.hid (turn_ok hv)
    rw [hv] at HO HF
    have hval := trackB_iff.1 hv
    have hg := hval.good
    obtain ⟨fx1, fx2⟩ := hval.from_
    obtain ⟨fy1, fy2⟩ := hval.until_
    have hlen := hval.len
    have hl0 := (lenAll_bds hg).1
    have HLA := Lib.hid (fun W (hW : Below w.heap.size w W) h0 => specLength_any w.heap.size A n c l w.heap.size W h0 (HS.out W hW) hg)
    have HG := Lib.hid hg
    have hl12 := hg.1
    clear hg hval hv
    go_enter Try.func30, Try.ntmps30
    go_wp2_with fail
    generalize (w.alloc (.cells #[.slice A n c, .int .i64 lf, .int .i64 lu] 30)).alloc (.cells #[.slice none 0 0, .int .i64 0, .int .i64 0] 30) = W0 at *
    refine HO.out.mono ?_
    rintro e w1 ⟨rfl, m, rfl⟩
    obtain ⟨r1, r2⟩ := HR.out
    have hz := HZ.out
    have R1 := Lib.hid (r1.below (below_drew W0 m W0.heap.size) (by omega))
    have R2 := Lib.hid (r2.below (below_drew W0 m W0.heap.size) (by omega))
    have HB1 := Lib.hid (HB.out.trans (below_drew W0 m _))
    have h12 : w.heap.size + 1 < (W0.drewN m).heap.size := by show w.heap.size + 1 < W0.heap.size; omega
    generalize W0.drewN m = w1 at *
    obtain ⟨a0, a1, a2, _, _, _⟩ := R1.out.three
    clear r1 r2 hz
    have HLB := Lib.hid (HLA.out w1 HB1.out a0)
    generalize hLL : lenAll l = L at *
    clear hLL
    have k1 : IntKind.i64.wrap (L - lu) = L - lu := IntWalk.i64_in _ (by omega)
    have k2 : IntKind.i64.wrap (L - lf) = L - lf := IntWalk.i64_in _ (by omega)
    have RL := Lib.hid (RowAt.new w1 30 #[.slice none 0 0, .int .i64 (L - lu), .int .i64 (L - lf)])
    have HBL := Lib.hid ((Below.refl w1.heap.size w1).alloc (Nat.le_refl _) (.cells #[.slice none 0 0, .int .i64 (L - lu), .int .i64 (L - lf)] 30))
    have hzl : (w1.alloc (.cells #[.slice none 0 0, .int .i64 (L - lu), .int .i64 (L - lf)] 30)).heap.size = w1.heap.size + 1 := by simp
    have OL : Hid (∃ v, Out (w1.alloc (.cells #[.slice none 0 0, .int .i64 (L - lu), .int .i64 (L - lf)] 30)) w1.heap.size v (L - lu) (L - lf) (l.drop n).reverse) := by
      have e : (l.drop n).reverse = [] := by rw [List.drop_of_length_le (by rw [HLN.out]; exact Nat.le_refl _)]; rfl
      show ∃ v, Out _ _ v _ _ (l.drop n).reverse
      rw [e]
      exact ⟨_, RL.out, World.ownsRow_nil _ _ _ _, fun _ => rfl⟩
    clear RL
    have HZL := Lib.hid hzl
    clear hzl
    have a0L := (HBL.out.cell (p := ⟨w.heap.size, 0, none⟩) (by show w.heap.size < w1.heap.size; omega)).trans a0
    go_wp2_with (go_at_call 53; refine HLB.out.mono ?_; rintro e w2 ⟨rfl, rfl⟩)
    generalize w1.alloc (.cells #[.slice none 0 0, .int .i64 (L - lu), .int .i64 (L - lf)] 30) = WL at *
    have HBW := Lib.hid (HB1.out.trans (HBL.out.mono HB1.out.size))
    have R1L := Lib.hid (R1.out.below HBL.out (by omega))
    have R2L := Lib.hid (R2.out.below HBL.out h12)
    clear a0 a1 a2 a0L
    obtain ⟨i0, hi, hzz0, hzz1, hzz2⟩ := info_parts info_sec
    go_loopw [6] (fun i wr => ∃ j : Nat, j ≤ n ∧ i = .int .i64 ((j : Int) - 1) ∧ Hid (Below w1.heap.size WL wr) ∧ Hid (∃ v, Out wr w1.heap.size v (L - lu) (L - lf) (l.drop j).reverse)) (fun i _ => (intOf i + 1).toNat)
    case atStart => exact ⟨n, Nat.le_refl _, rfl, Below.refl _ _, OL⟩
    case round =>
      obtain ⟨j, hk, rfl, hbr, hout⟩ := hrel
      have HBR := Lib.hid (HBW.out.trans (hbr.out.mono HB1.out.size))
      obtain ⟨a0, _, _, _, _, _⟩ := (R1L.out.below hbr.out (by omega)).three
      obtain ⟨v, ho⟩ := hout.out
      by_cases hlt : 0 < j
      · obtain ⟨b, off, rfl, hb, hc⟩ := (HS.out _ HBR.out).2 (by omega)
        obtain ⟨c1, c2⟩ := hc (j - 1) (by omega)
        clear hc
        have HA : Hid ((l.drop (j - 1)).reverse = (l.drop j).reverse ++ [(secL l (j - 1), secG l (j - 1))]) := rv_step hlt (by rw [HLN.out]; exact hk)
        have hlk : (l.drop j).reverse.length ≤ 12 := by simp; omega
        generalize secL l (j - 1) = x at *
        generalize secG l (j - 1) = y at *
        have hwr : w1.heap.size < wr.heap.size := by have := hbr.out.size; have := HZL.out; omega
        generalize (l.drop j).reverse = acc at *
        have HOW : Hid (Out wr w1.heap.size v (L - lu) (L - lf) acc) := ho
        obtain ⟨o0, o1, o2, o3, o4, o5⟩ := HOW.out.1.three
        have hfm : ∃ A' cp, v = .slice A' acc.length cp := by obtain ⟨A', cp, h, _⟩ := OwnT.of_row HOW.out.2.1; exact ⟨A', cp, h⟩
        obtain ⟨A', cp, rfl⟩ := hfm
        have i1 : (0 : Int) ≤ (j : Int) - 1 := by omega
        have i2 : (1 : Int) ≤ (j : Int) := by omega
        have i3 : (j : Int) - 1 < (n : Int) := by omega
        have i4 : ((j : Int) - 1).toNat = j - 1 := by omega
        clear ho
        go_wp2
        have m1 : acc.length + 1 ≤ maxLen := by unfold maxLen; omega
        have oA := fun m => ((below_drew_alloc wr m (.cells #[.int .i64 x, .int .i64 y] 60)).cell (p := ⟨w1.heap.size, 0, none⟩) hwr).trans o0
        have m2 : (acc.length + 1) * 16 ≤ 140737488355328 := by omega
        go_region_law ((refine step_append_lies _ (by rfl) (.tmp 29) (.tmp 35) 28 (by rfl) (w1.heap.size + 1) 60 i0 (.agg #[.int .i64 0, .int .i64 0]) 2 16 Try.underlying28 hi hzz0 hzz1 hzz2 rfl (by decide) _ acc.length (flat acc) (by rfl) (World.ownsRow.alloc (w := wr.drewN _) HOW.out.2.1 _) ⟨_, 0, none⟩ 1 1 [.int .i64 x, .int .i64 y] (by rfl) (by rfl) (World.news_of_block (RowAt.new (wr.drewN _) 60 #[.int .i64 x, .int .i64 y])) (flat_one [(x, y)]) (by decide) m1 m2 (by simp; omega) _ rfl ?_; intro g' cap' w2 hown hgrow hat hlt2; obtain ⟨⟨t0, t1⟩, t2, t3⟩ := HOW.out.append (more := [(x, y)]) (by simp) ((below_drew_alloc wr _ _).mono (by omega)) (by simp; omega) HOW.out.own hgrow hown; obtain ⟨f0, f1, f2, f3, f4, f5⟩ := t0.three; have T2 := Lib.hid t2; have T3 := Lib.hid (hbr.out.trans t3); clear t0 t1 t2 t3 hown hgrow hat))
        all_goals
          go_wp2
          go_roundw
          case rel => exact ⟨j - 1, by omega, val_int2 (by omega), T3.out, _, by rw [HA.out]; exact T2.out⟩
          case measure => simp [intOf]; omega
      · have e : j = 0 := by omega
        subst e
        obtain ⟨A', c', rfl, hot⟩ := OwnT.of_row ho.2.1
        obtain ⟨o0, o1, o2, o3, o4, o5⟩ := ho.1.three
        have HOT2 : Hid (OwnT wr (w1.heap.size + 1) A' (l.drop 0).reverse.length (l.drop 0).reverse) := hot
        obtain ⟨b0, b1, b2, b3, b4, b5⟩ := (R2L.out.below hbr.out h12).three
        clear ho hot
        go_wp2
        refine bodyPost_ret (v := .tuple #[.agg #[.slice A' (l.drop 0).reverse.length c', .int .i64 (L - lu), .int .i64 (L - lf)], .int .i64 0]) (by simp [results, Try.results30, go_sem, b0, b1, b2]) rfl ?_
        refine NewTrk.as (l' := (l.drop 0).reverse) ⟨A', c', rfl, OwnT.mono (OwnT.set (OwnT.set (OwnT.set HOT2.out (show w.heap.size + 1 < w1.heap.size + 1 by omega) _) (show w.heap.size + 1 < w1.heap.size + 1 by omega) _) (show w.heap.size + 1 < w1.heap.size + 1 by omega) _) (by omega), ((HBR.out.setCell (by simp) _).setCell (by simp) _).setCell (by simp) _⟩ HF.out
end Go.Proofs.Ytnljdgmnmafopaa.TrkZ
