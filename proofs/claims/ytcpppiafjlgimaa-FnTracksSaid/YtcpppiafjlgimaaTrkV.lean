/- A track cut at a place: the program's walk and the reference's. -/
import Derived.Test.YtcpppiafjlgimaaTrkT
namespace Go.Proofs.Ytcpppiafjlgimaa.TrkV
open Go.RowKit Go.Proofs.Ytcpppiafjlgimaa.Plain Go.Proofs.Ytcpppiafjlgimaa.TrkP Go.Proofs.Ytcpppiafjlgimaa.WalkA Go.Proofs.Ytcpppiafjlgimaa.TrkA Go.Proofs.Ytcpppiafjlgimaa.TrkB Go.Proofs.Ytcpppiafjlgimaa.TrkC Go.Proofs.Ytcpppiafjlgimaa.TrkD Go.Proofs.Ytcpppiafjlgimaa.TrkE Go.Proofs.Ytcpppiafjlgimaa.TrkR Go.Proofs.Ytcpppiafjlgimaa.TrkS Go.Proofs.Ytcpppiafjlgimaa.TrkT

/-- The sections of a track that is cut at x, the first k of them taken. -/
def cutTo (l : List (Int × Int)) (x : Int) : Nat → List (Int × Int)
  | 0 => []
  | k + 1 => if 0 < x - lenTo l k ∧ x - lenTo l k < secL l k then cutTo l x k ++ [(x - lenTo l k, secG l k), (secL l k - (x - lenTo l k), secG l k)] else cutTo l x k ++ [(secL l k, secG l k)]
theorem cut_yes {l : List (Int × Int)} {x : Int} {k : Nat} (h : 0 < x - lenTo l k) (h2 : x - lenTo l k < secL l k) : cutTo l x (k + 1) = cutTo l x k ++ [(x - lenTo l k, secG l k), (secL l k - (x - lenTo l k), secG l k)] := if_pos ⟨h, h2⟩
theorem cut_no {l : List (Int × Int)} {x : Int} {k : Nat} (h : ¬ (0 < x - lenTo l k ∧ x - lenTo l k < secL l k)) : cutTo l x (k + 1) = cutTo l x k ++ [(secL l k, secG l k)] := if_neg h
theorem cutTo_len (l : List (Int × Int)) (x : Int) (k : Nat) : (cutTo l x k).length ≤ 2 * k := by
  induction k with
  | zero => exact Nat.le_refl _
  | succ k ih =>
    by_cases h : 0 < x - lenTo l k ∧ x - lenTo l k < secL l k
    · rw [cut_yes h.1 h.2]; simp; omega
    · rw [cut_no h]; simp; omega
def cutOk (l : List (Int × Int)) (lf lu x : Int) : Bool := onB l lf lu x && decide ((cutTo l x l.length).length ≤ 12)
def cutL (l : List (Int × Int)) (lf lu x : Int) : List (Int × Int) := if cutOk l lf lu x = true then cutTo l x l.length else []
def cutC (l : List (Int × Int)) (lf lu x : Int) : Int := if onB l lf lu x = true then (if (cutTo l x l.length).length ≤ 12 then 0 else 5) else onI l lf lu x
theorem cut_bad {l : List (Int × Int)} {lf lu x : Int} (h : onB l lf lu x = false) : cutL l lf lu x = [] ∧ vI (cutOk l lf lu x) lf = 0 ∧ vI (cutOk l lf lu x) lu = 0 ∧ cutC l lf lu x = onI l lf lu x := by simp [cutL, cutOk, cutC, h, vI]
theorem cut_full {l : List (Int × Int)} {lf lu x : Int} (h : onB l lf lu x = true) (k : ¬ (cutTo l x l.length).length ≤ 12) : cutL l lf lu x = [] ∧ vI (cutOk l lf lu x) lf = 0 ∧ vI (cutOk l lf lu x) lu = 0 ∧ cutC l lf lu x = 5 := by simp [cutL, cutOk, cutC, h, k, vI]
theorem cut_ok {l : List (Int × Int)} {lf lu x : Int} (h : onB l lf lu x = true) (k : (cutTo l x l.length).length ≤ 12) : cutL l lf lu x = cutTo l x l.length ∧ vI (cutOk l lf lu x) lf = lf ∧ vI (cutOk l lf lu x) lu = lu ∧ cutC l lf lu x = 0 := by simp [cutL, cutOk, cutC, h, k, vI]
theorem onI_ne {l : List (Int × Int)} {lf lu x : Int} (h : onB l lf lu x = false) : onI l lf lu x = 1 ∨ onI l lf lu x = 2 := by
  unfold onB at h
  unfold onI
  cases h1 : trackB l lf lu
  · simp
  · rw [h1] at h
    simp only [Bool.true_and] at h
    simp [h]
theorem onI_ok {l : List (Int × Int)} {lf lu x : Int} (h : onB l lf lu x = true) : onI l lf lu x = 0 := by
  unfold onB at h
  simp only [Bool.and_eq_true] at h
  exact onI_in h.1 h.2
theorem NewTrk.as {w : World} {l l' : List (Int × Int)} {a a' b b' c c' : Int} {e : Ending} {w' : World} (h : NewTrk w l' a' b' c' e w') (h1 : l = l' ∧ a = a' ∧ b = b' ∧ c = c') : NewTrk w l a b c e w' := by
  obtain ⟨rfl, rfl, rfl, rfl⟩ := h1
  exact h

theorem val_sub {a b : Int} (h : a = b) : Value.int .i64 b = .int .i64 a := by rw [h]

set_option maxHeartbeats 1000000 in
theorem implCut_any (A : Option Addr) (n c : Nat) (lf lu : Int) (l : List (Int × Int)) (x : Int) (w : World) (hs : Secs w w.heap.size A n l) (hn : n ≤ 1048576) :
    Calls Try.prog 15 #[.agg #[.slice A n c, .int .i64 lf, .int .i64 lu], .int .i64 x] w (NewTrk w (cutL l lf lu x) (vI (cutOk l lf lu x) lf) (vI (cutOk l lf lu x) lu) (cutC l lf lu x)) := by
  have HS := Lib.hid (fun W (hW : Below w.heap.size w W) => hs.below hW (Nat.le_refl _))
  have HR := Lib.hid (rows_two w 26 26 #[.slice A n c, .int .i64 lf, .int .i64 lu] #[.slice none 0 0, .int .i64 0, .int .i64 0])
  have HB := Lib.hid (((Below.refl w.heap.size w).alloc (Nat.le_refl _) (.cells #[.slice A n c, .int .i64 lf, .int .i64 lu] 26)).alloc (by simp) (.cells #[.slice none 0 0, .int .i64 0, .int .i64 0] 26))
  have hz0 : ((w.alloc (.cells #[.slice A n c, .int .i64 lf, .int .i64 lu] 26)).alloc (.cells #[.slice none 0 0, .int .i64 0, .int .i64 0] 26)).heap.size = w.heap.size + 2 := by simp
  have HZ := Lib.hid hz0
  have HLN := Lib.hid hs.1
  have HV := Lib.hid (fun W (hW : Below w.heap.size w W) => onTrack_any A n c lf lu l x W (hs.below hW hW.size) hn)
  clear hz0 hs
  cases hv : onB l lf lu x
  · have HF := Lib.hid (cut_bad hv)
    have hne := onI_ne hv
    generalize onI l lf lu x = cd at *
    have hcd : (cd == 0) = false := by rw [beq_eq_false_iff_ne]; omega
    clear hv
    go_enter Try.func15, Try.ntmps15
    go_wp2_with fail
    generalize (w.alloc (.cells #[.slice A n c, .int .i64 lf, .int .i64 lu] 26)).alloc (.cells #[.slice none 0 0, .int .i64 0, .int .i64 0] 26) = W0 at *
    refine (HV.out _ HB.out).mono ?_
    rintro e w1 ⟨rfl, hbd⟩
    have hz := HZ.out
    have R1 := Lib.hid (HR.out.1.below hbd (by omega))
    have R2 := Lib.hid (HR.out.2.below hbd (by omega))
    have HB1 := Lib.hid (HB.out.trans (hbd.mono (by omega)))
    have h12 : w.heap.size + 1 < w1.heap.size := by have := hbd.size; omega
    clear hbd hz
    obtain ⟨b0, b1, b2, b3, b4, b5⟩ := R2.out.three
    go_wp2
    refine bodyPost_ret (v := .tuple #[.agg #[.slice none 0 0, .int .i64 0, .int .i64 0], .int .i64 cd]) (by simp [results, Try.results15, go_sem, b0, b1, b2]) rfl ?_
    refine NewTrk.as (l' := []) ⟨none, 0, rfl, ⟨rfl, fun h => absurd h (by simp)⟩, ?_⟩ HF.out
    exact ((HB1.out.setCell (by simp) _).setCell (by simp) _).setCell (by simp) _
  · have hval := (Bool.and_eq_true _ _ ▸ (show (trackB l lf lu && inB x 0 (lenAll l)) = true from hv) : trackB l lf lu = true ∧ inB x 0 (lenAll l) = true)
    have hg := (trackB_iff.1 hval.1).good
    have HG := Lib.hid hg
    have hl12 := hg.1
    have hx0 := (inB_iff.1 hval.2).1
    have hx1 := (inB_iff.1 hval.2).2
    have hxl := (trackB_iff.1 hval.1).len
    have HFULL : Hid (¬ (cutTo l x l.length).length ≤ 12 → cutL l lf lu x = [] ∧ vI (cutOk l lf lu x) lf = 0 ∧ vI (cutOk l lf lu x) lu = 0 ∧ cutC l lf lu x = 5) := cut_full hv
    have HOK : Hid ((cutTo l x l.length).length ≤ 12 → cutL l lf lu x = cutTo l x l.length ∧ vI (cutOk l lf lu x) lf = lf ∧ vI (cutOk l lf lu x) lu = lu ∧ cutC l lf lu x = 0) := cut_ok hv
    rw [onI_ok hv] at HV
    clear hg hval hv
    go_enter Try.func15, Try.ntmps15
    go_wp2_with fail
    generalize (w.alloc (.cells #[.slice A n c, .int .i64 lf, .int .i64 lu] 26)).alloc (.cells #[.slice none 0 0, .int .i64 0, .int .i64 0] 26) = W0 at *
    refine (HV.out _ HB.out).mono ?_
    rintro e w1 ⟨rfl, hbd⟩
    have hz := HZ.out
    have R1 := Lib.hid (HR.out.1.below hbd (by omega))
    have R2 := Lib.hid (HR.out.2.below hbd (by omega))
    have HB1 := Lib.hid (HB.out.trans (hbd.mono (by omega)))
    have h12 : w.heap.size + 1 < w1.heap.size := by have := hbd.size; omega
    clear hbd hz
    obtain ⟨a0, a1, a2, _, _, _⟩ := R1.out.three
    have RL := Lib.hid (RowAt.new w1 26 #[.slice none 0 0, .int .i64 lf, .int .i64 lu])
    have HBL := Lib.hid ((Below.refl w1.heap.size w1).alloc (Nat.le_refl _) (.cells #[.slice none 0 0, .int .i64 lf, .int .i64 lu] 26))
    have hzl : (w1.alloc (.cells #[.slice none 0 0, .int .i64 lf, .int .i64 lu] 26)).heap.size = w1.heap.size + 1 := by simp
    have OL : Hid (∃ v, Out (w1.alloc (.cells #[.slice none 0 0, .int .i64 lf, .int .i64 lu] 26)) w1.heap.size v lf lu (cutTo l x 0)) := ⟨_, RL.out, World.ownsRow_nil _ _ _ _, fun _ => rfl⟩
    clear RL
    have HZL := Lib.hid hzl
    have a0L := (HBL.out.cell (p := ⟨w.heap.size, 0, none⟩) (by show w.heap.size < w1.heap.size; omega)).trans a0
    clear hzl
    go_wp2
    generalize w1.alloc (.cells #[.slice none 0 0, .int .i64 lf, .int .i64 lu] 26) = WL at *
    have HBW := Lib.hid (HB1.out.trans (HBL.out.mono HB1.out.size))
    have R1L := Lib.hid (R1.out.below HBL.out (by omega))
    have R2L := Lib.hid (R2.out.below HBL.out h12)
    clear a0L a0 a1 a2
    obtain ⟨i0, hi, hzz0, hzz1, hzz2⟩ := info_parts info_sec
    go_loopw [1, 25] (fun q i wr => ∃ k : Nat, k ≤ n ∧ i = .int .i64 k ∧ q = .int .i64 (x - lenTo l k) ∧ Hid (Below w1.heap.size WL wr) ∧ Hid (∃ v, Out wr w1.heap.size v lf lu (cutTo l x k))) (fun _ i _ => n - (intOf i).toNat)
    case atStart => exact ⟨0, Nat.zero_le _, rfl, by show _ = Value.int .i64 (x - 0); rw [Int.sub_zero], Below.refl _ _, OL⟩
    case round =>
      obtain ⟨k, hk, rfl, rfl, hbr, hout⟩ := hrel
      have HBR := Lib.hid (HBW.out.trans (hbr.out.mono HB1.out.size))
      obtain ⟨a0, _, _, _, _, _⟩ := (R1L.out.below hbr.out (by omega)).three
      obtain ⟨v, ho⟩ := hout.out
      by_cases hlt : k < n
      · obtain ⟨b, off, rfl, hb, hc⟩ := (HS.out _ HBR.out).2 (by omega)
        obtain ⟨c1, c2⟩ := hc k hlt
        clear hc
        have HJ1 : Hid (0 < x - lenTo l k → x - lenTo l k < secL l k → cutTo l x (k + 1) = cutTo l x k ++ [(x - lenTo l k, secG l k), (secL l k - (x - lenTo l k), secG l k)]) := cut_yes
        have HJ2 : Hid (¬ (0 < x - lenTo l k ∧ x - lenTo l k < secL l k) → cutTo l x (k + 1) = cutTo l x k ++ [(secL l k, secG l k)]) := cut_no
        have hlk := cutTo_len l x k
        have hk12 : k ≤ 12 := by have := HLN.out; omega
        obtain ⟨hto0, hto⟩ := lenTo_bds HG.out k (by rw [HLN.out]; exact hk)
        have hxb := HG.out.2 k (by rw [HLN.out]; exact hlt)
        obtain ⟨x1, x2, _, _⟩ := hxb
        have HT : Hid (lenTo l (k + 1) = lenTo l k + secL l k) := rfl
        generalize secL l k = s at *
        generalize secG l k = y at *
        have hwr : w1.heap.size < wr.heap.size := by have := hbr.out.size; have := HZL.out; omega
        generalize cutTo l x k = acc at *
        generalize lenTo l k = tk at *
        have HOW := Lib.hid (ho.alloc (.cells #[.int .i64 s, .int .i64 y] 37))
        obtain ⟨s0, s1⟩ := rows_pair wr (.int .i64 s) (.int .i64 y) 37
        have HRB := Lib.hid (RowAt.new wr 37 #[.int .i64 s, .int .i64 y])
        have HBB := Lib.hid ((Below.refl wr.heap.size wr).alloc (Nat.le_refl _) (.cells #[.int .i64 s, .int .i64 y] 37))
        have hzb : (wr.alloc (.cells #[.int .i64 s, .int .i64 y] 37)).heap.size = wr.heap.size + 1 := by simp
        have hsz1 := HOW.out.lt
        obtain ⟨o0, o1, o2, o3, o4, o5⟩ := HOW.out.1.three
        have ho2 := ho.2.1
        clear ho
        have hfm : ∃ A' cp, v = .slice A' acc.length cp := by obtain ⟨A', cp, h, _⟩ := OwnT.of_row HOW.out.2.1; exact ⟨A', cp, h⟩
        obtain ⟨A', cp, rfl⟩ := hfm
        have HNB : Hid (∀ r, (Value.slice A' acc.length cp).ownBlock = some r → r ≠ wr.heap.size) := fun r hr e => by
          obtain ⟨q1, q2⟩ := ho2.lt r hr
          omega
        by_cases hz1 : 0 < x - tk
        · by_cases hz2 : x - tk < s
          · have HA := Lib.hid (HJ1.out hz1 hz2)
            have hd2 : decide (x - tk < s) = true := decide_eq_true hz2
            have hd1 : decide (0 < x - tk) = true := decide_eq_true hz1
            have HXT : Hid (x - lenTo l (k + 1) = x - tk - s) := by show x - lenTo l (k + 1) = x - tk - s; rw [HT.out]; omega
            clear HJ1 HJ2
            have hzb1 : -36000000 ≤ x - tk := by omega
            have hzb2 : x - tk ≤ 3000000 := by omega
            generalize x - tk = z at *
            go_wp2_with (at_builtin; refine wpList_append_lies _ rfl _ _ 24 rfl (w1.heap.size + 1) 37 i0 (.agg #[.int .i64 0, .int .i64 0]) 2 16 Try.underlying24 hi hzz0 hzz1 hzz2 rfl (by decide) _ (acc).length (flat (acc)) rfl ?c1 ⟨_, 0, none⟩ 2 2 [.int .i64 z, .int .i64 y, .int .i64 (s - z), .int .i64 y] rfl rfl ?c2 ?c3 (by decide) ?c4 ?c5 ?c6 _ rfl ?_)
            case c1 => exact World.ownsRow.alloc (w := wr.alloc (.cells #[.int .i64 s, .int .i64 y] 37)) HOW.out.2.1 _
            try (case c2 => exact World.news_of_block (rows_two wr 37 37 #[.int .i64 s, .int .i64 y] #[.int .i64 z, .int .i64 y, .int .i64 (s - z), .int .i64 y]).2)
            case c3 => first | exact flat_one [(z, y), (s - z, y)] | exact ⟨rfl, rfl⟩
            case c4 => unfold maxLen; omega
            case c5 => omega
            case c6 => first | omega | (simp; omega)
            intro gc capc w2 hown hgrow hat hltc
            obtain ⟨⟨t0, t1⟩, t2, t3⟩ := HOW.out.append (more := [(z, y), (s - z, y)]) (by simp) (((Below.refl _ (wr.alloc (.cells #[.int .i64 s, .int .i64 y] 37))).alloc (Nat.le_refl _) _).mono (by omega)) (by simp; omega) HOW.out.own hgrow hown
            have HQ := RowAt.grown (HRB.out.below ((Below.refl _ (wr.alloc (.cells #[.int .i64 s, .int .i64 y] 37))).alloc (Nat.le_refl _) (.cells #[.int .i64 z, .int .i64 y, .int .i64 (s - z), .int .i64 y] 37)) (by omega)) hgrow (fun e => HNB.out _ e rfl)
            have sq := (HQ.far (p := ⟨w1.heap.size, 0, none⟩) (by show w1.heap.size ≠ wr.heap.size; omega) (.slice (some ⟨gc, 0, none⟩) (acc.length + 2) capc)).cell 0
            clear HQ
            obtain ⟨f0, f1, f2, f3, f4, f5⟩ := t0.three
            have T2 := Lib.hid t2
            have T3 := Lib.hid (hbr.out.trans ((HBB.out.mono (by omega)).trans t3))
            clear t0 t1 t2 t3 hown hgrow hat
            go_wp2
            go_roundw
            case rel => exact ⟨k + 1, by omega, by go_num, val_sub HXT.out, T3.out, _, by rw [HA.out]; exact T2.out⟩
            case measure => simp [intOf]; omega
          · have HA := Lib.hid (HJ2.out (fun h => hz2 h.2))
            have hd2 : decide (x - tk < s) = false := decide_eq_false hz2
            have hd1 : decide (0 < x - tk) = true := decide_eq_true hz1
            have HXT : Hid (x - lenTo l (k + 1) = x - tk - s) := by show x - lenTo l (k + 1) = x - tk - s; rw [HT.out]; omega
            clear HJ1 HJ2
            have hzb1 : -36000000 ≤ x - tk := by omega
            have hzb2 : x - tk ≤ 3000000 := by omega
            generalize x - tk = z at *
            go_wp2_with (at_builtin; refine wpList_append_lies _ rfl _ _ 24 rfl (w1.heap.size + 1) 37 i0 (.agg #[.int .i64 0, .int .i64 0]) 2 16 Try.underlying24 hi hzz0 hzz1 hzz2 rfl (by decide) _ (acc).length (flat (acc)) rfl ?d1 ⟨_, 0, none⟩ 1 1 [.int .i64 s, .int .i64 y] rfl rfl ?d2 ?d3 (by decide) ?d4 ?d5 ?d6 _ rfl ?_)
            case d1 => exact World.ownsRow.alloc (w := wr.alloc (.cells #[.int .i64 s, .int .i64 y] 37)) HOW.out.2.1 _
            try (case d2 => exact World.news_of_block (rows_two wr 37 37 #[.int .i64 s, .int .i64 y] #[.int .i64 s, .int .i64 y]).2)
            case d3 => first | exact flat_one [(s, y)] | exact ⟨rfl, rfl⟩
            case d4 => unfold maxLen; omega
            case d5 => omega
            case d6 => first | omega | (simp; omega)
            intro gd capd w2 hown hgrow hat hltd
            obtain ⟨⟨t0, t1⟩, t2, t3⟩ := HOW.out.append (more := [(s, y)]) (by simp) (((Below.refl _ (wr.alloc (.cells #[.int .i64 s, .int .i64 y] 37))).alloc (Nat.le_refl _) _).mono (by omega)) (by simp; omega) HOW.out.own hgrow hown
            have HQ := RowAt.grown (HRB.out.below ((Below.refl _ (wr.alloc (.cells #[.int .i64 s, .int .i64 y] 37))).alloc (Nat.le_refl _) (.cells #[.int .i64 s, .int .i64 y] 37)) (by omega)) hgrow (fun e => HNB.out _ e rfl)
            have sq := (HQ.far (p := ⟨w1.heap.size, 0, none⟩) (by show w1.heap.size ≠ wr.heap.size; omega) (.slice (some ⟨gd, 0, none⟩) (acc.length + 1) capd)).cell 0
            clear HQ
            obtain ⟨f0, f1, f2, f3, f4, f5⟩ := t0.three
            have T2 := Lib.hid t2
            have T3 := Lib.hid (hbr.out.trans ((HBB.out.mono (by omega)).trans t3))
            clear t0 t1 t2 t3 hown hgrow hat
            go_wp2
            go_roundw
            case rel => exact ⟨k + 1, by omega, by go_num, val_sub HXT.out, T3.out, _, by rw [HA.out]; exact T2.out⟩
            case measure => simp [intOf]; omega
        · have HA := Lib.hid (HJ2.out (fun h => hz1 h.1))
          have hd1 : decide (0 < x - tk) = false := decide_eq_false hz1
          have HXT : Hid (x - lenTo l (k + 1) = x - tk - s) := by show x - lenTo l (k + 1) = x - tk - s; rw [HT.out]; omega
          clear HJ1 HJ2
          have hzb1 : -36000000 ≤ x - tk := by omega
          have hzb2 : x - tk ≤ 3000000 := by omega
          generalize x - tk = z at *
          go_wp2_with (at_builtin; refine wpList_append_lies _ rfl _ _ 24 rfl (w1.heap.size + 1) 37 i0 (.agg #[.int .i64 0, .int .i64 0]) 2 16 Try.underlying24 hi hzz0 hzz1 hzz2 rfl (by decide) _ (acc).length (flat (acc)) rfl ?e1 ⟨_, 0, none⟩ 1 1 [.int .i64 s, .int .i64 y] rfl rfl ?e2 ?e3 (by decide) ?e4 ?e5 ?e6 _ rfl ?_)
          case e1 => exact World.ownsRow.alloc (w := wr.alloc (.cells #[.int .i64 s, .int .i64 y] 37)) HOW.out.2.1 _
          try (case e2 => exact World.news_of_block (rows_two wr 37 37 #[.int .i64 s, .int .i64 y] #[.int .i64 s, .int .i64 y]).2)
          case e3 => first | exact flat_one [(s, y)] | exact ⟨rfl, rfl⟩
          case e4 => unfold maxLen; omega
          case e5 => omega
          case e6 => first | omega | (simp; omega)
          intro ge cape w2 hown hgrow hat hlte
          obtain ⟨⟨t0, t1⟩, t2, t3⟩ := HOW.out.append (more := [(s, y)]) (by simp) (((Below.refl _ (wr.alloc (.cells #[.int .i64 s, .int .i64 y] 37))).alloc (Nat.le_refl _) _).mono (by omega)) (by simp; omega) HOW.out.own hgrow hown
          have HQ := RowAt.grown (HRB.out.below ((Below.refl _ (wr.alloc (.cells #[.int .i64 s, .int .i64 y] 37))).alloc (Nat.le_refl _) (.cells #[.int .i64 s, .int .i64 y] 37)) (by omega)) hgrow (fun e => HNB.out _ e rfl)
          have sq := (HQ.far (p := ⟨w1.heap.size, 0, none⟩) (by show w1.heap.size ≠ wr.heap.size; omega) (.slice (some ⟨ge, 0, none⟩) (acc.length + 1) cape)).cell 0
          clear HQ
          obtain ⟨f0, f1, f2, f3, f4, f5⟩ := t0.three
          have T2 := Lib.hid t2
          have T3 := Lib.hid (hbr.out.trans ((HBB.out.mono (by omega)).trans t3))
          clear t0 t1 t2 t3 hown hgrow hat
          go_wp2
          go_roundw
          case rel => exact ⟨k + 1, by omega, by go_num, val_sub HXT.out, T3.out, _, by rw [HA.out]; exact T2.out⟩
          case measure => simp [intOf]; omega
      · have e : k = n := by omega
        subst e
        obtain ⟨A', c', rfl, hot⟩ := OwnT.of_row ho.2.1
        obtain ⟨o0, o1, o2, o3, o4, o5⟩ := ho.1.three
        have HOT2 : Hid (OwnT wr (w1.heap.size + 1) A' (cutTo l x k).length (cutTo l x k)) := hot
        obtain ⟨b0, b1, b2, b3, b4, b5⟩ := (R2L.out.below hbr.out h12).three
        clear ho hot
        by_cases hful : (cutTo l x k).length ≤ 12
        · have HF := Lib.hid (HOK.out (by rw [HLN.out]; exact hful))
          have hd : decide ((12 : Int) < ((cutTo l x k).length : Int)) = false := decide_eq_false (by omega)
          go_wp2
          refine bodyPost_ret (v := .tuple #[.agg #[.slice A' (cutTo l x k).length c', .int .i64 lf, .int .i64 lu], .int .i64 0]) (by simp [results, Try.results15, go_sem, b0, b1, b2]) rfl ?_
          refine NewTrk.as (l' := cutTo l x k) ⟨A', c', rfl, OwnT.mono (OwnT.set (OwnT.set (OwnT.set HOT2.out (show w.heap.size + 1 < w1.heap.size + 1 by omega) _) (show w.heap.size + 1 < w1.heap.size + 1 by omega) _) (show w.heap.size + 1 < w1.heap.size + 1 by omega) _) (by omega), ((HBR.out.setCell (by simp) _).setCell (by simp) _).setCell (by simp) _⟩ ?_
          have := HF.out
          rw [HLN.out] at this
          exact this
        · have HF := Lib.hid (HFULL.out (by rw [HLN.out]; exact hful))
          have hd : decide ((12 : Int) < ((cutTo l x k).length : Int)) = true := decide_eq_true (by omega)
          go_wp2
          refine bodyPost_ret (v := .tuple #[.agg #[.slice none 0 0, .int .i64 0, .int .i64 0], .int .i64 5]) (by simp [results, Try.results15, go_sem, b0, b1, b2]) rfl ?_
          exact NewTrk.as (l' := []) ⟨none, 0, rfl, ⟨rfl, fun h => absurd h (by simp)⟩, ((HBR.out.setCell (by simp) _).setCell (by simp) _).setCell (by simp) _⟩ HF.out

end Go.Proofs.Ytcpppiafjlgimaa.TrkV
