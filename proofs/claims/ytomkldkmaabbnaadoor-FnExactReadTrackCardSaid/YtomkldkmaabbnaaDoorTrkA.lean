/- The walks of tracks: length and validity, program and reference. -/
import Derived.Test.YtomkldkmaabbnaaDoorTrkP
import Derived.Test.YtomkldkmaabbnaaDoorWalkAs
import Derived.BigQuiet
import Derived.Deep.QuietTactic
import Derived.Deep.RegionHeld3
namespace Go.Proofs.YtomkldkmaabbnaaDoor.TrkA
open Go.RowKit Go.Proofs.YtomkldkmaabbnaaDoor.Plain Go.Proofs.YtomkldkmaabbnaaDoor.TrkP Go.Proofs.YtomkldkmaabbnaaDoor.WalkA

theorem specLength_any (p : Nat) (A : Option Addr) (n c : Nat) (l : List (Int × Int)) (B : Nat) (w : World) (h0 : w.cell? ⟨p, 0, none⟩ = some (.slice A n c)) (hs : Secs w B A n l) (hg : GoodL l) :
    Calls Tryd.prog 22 #[.pointer (some ⟨p, 0, none⟩)] w fun e w' => e = .returned (.int .i64 (lenAll l)) ∧ w = w' := by
  obtain ⟨rfl, hs2⟩ := hs
  have HG := Lib.hid hg
  have HS := Lib.hid hs2
  have h12 := hg.1
  clear hg hs2
  go_enter Tryd.func22, Tryd.ntmps22
  go_wp2
  go_loop [3, 4] (fun s i => ∃ k : Nat, k ≤ l.length ∧ i = .int .i64 k ∧ s = .int .i64 (lenTo l k)) (fun _ i => l.length - (intOf i).toNat)
  case atStart => exact ⟨0, Nat.zero_le _, rfl, rfl⟩
  case round =>
    obtain ⟨k, hk, rfl, rfl⟩ := hrel
    obtain ⟨b1, b2⟩ := lenTo_bds HG.out k hk
    by_cases hlt : k < l.length
    · obtain ⟨b, off, rfl, _, hc⟩ := HS.out (by omega)
      obtain ⟨c1, c2⟩ := hc k hlt
      obtain ⟨g1, g2, g3, g4⟩ := HG.out.2 k hlt
      have HN : Hid (lenTo l (k + 1) = lenTo l k + secL l k) := rfl
      clear hc
      go_wp2
      go_round
      case rel => exact ⟨k + 1, by omega, by go_num, by rw [HN.out]⟩
      case measure => simp [intOf]; omega
    · have e : k = l.length := by omega
      have HE := Lib.hid e
      clear e
      go_wp2
      go_ret
      exact ⟨ret_int (by rw [HE.out]; rfl), rfl⟩

theorem below_step {w wr w2 : World} (h : Below w.heap.size w wr) (h2 : Below wr.heap.size wr w2) : Below w.heap.size w w2 := h.trans (h2.mono h.size)
theorem implLength_any (A : Option Addr) (n c : Nat) (lf lu : Int) (l : List (Int × Int)) (w : World) (hs : Secs w w.heap.size A n l) (hg : GoodL l) :
    Calls Tryd.prog 29 #[.agg #[.slice A n c, .int .i64 lf, .int .i64 lu]] w fun e w' => e = .returned (.int .i64 (lenAll l)) ∧ Below w.heap.size w w' := by
  have HS := Lib.hid hs
  have HG := Lib.hid hg
  have h12 := hg.1
  obtain ⟨rfl, _⟩ := hs
  clear hg
  have HB := Lib.hid ((Below.refl w.heap.size w).alloc (Nat.le_refl _) (.cells #[.slice A l.length c, .int .i64 lf, .int .i64 lu] 24))
  go_enter Tryd.func29, Tryd.ntmps29
  go_wp2
  go_loopw [3, 9] (fun s i wr => ∃ k : Nat, k ≤ l.length ∧ i = .int .i64 k ∧ s = .int .i64 (lenTo l k) ∧ Below w.heap.size w wr) (fun _ i _ => l.length - (intOf i).toNat)
  case atStart => exact ⟨0, Nat.zero_le _, rfl, rfl, HB.out⟩
  case round =>
    obtain ⟨k, hk, rfl, rfl, hbr⟩ := hrel
    have HBR := Lib.hid hbr
    obtain ⟨b1, b2⟩ := lenTo_bds HG.out k hk
    by_cases hlt : k < l.length
    · obtain ⟨b, off, rfl, hb, hc⟩ := (HS.out.below hbr hbr.size).2 (by omega)
      obtain ⟨c1, c2⟩ := hc k hlt
      obtain ⟨g1, g2, g3, g4⟩ := HG.out.2 k hlt
      have HN : Hid (lenTo l (k + 1) = lenTo l k + secL l k) := rfl
      clear hc hbr
      go_wp2
      go_roundw
      case rel => exact ⟨k + 1, by omega, by go_num, by rw [HN.out], (HBR.out.alloc HBR.out.size _)⟩
      case measure => simp [intOf]; omega
    · have e : k = l.length := by omega
      have HE := Lib.hid e
      clear e hbr
      go_wp2
      go_ret
      exact ⟨ret_int (by rw [HE.out]; rfl), HBR.out⟩

theorem in_same (n lo hi : Int) (w : World) : Calls Tryd.prog 21 #[.int .i64 n, .int .i64 lo, .int .i64 hi] w fun e w' => e = .returned (.bool (inB n lo hi)) ∧ w' = w :=
  (in_any n lo hi w).mono fun _ _ h => ⟨h.1, h.2.symm⟩
theorem specOk_any (p : Nat) (A : Option Addr) (n c : Nat) (lf lu : Int) (l : List (Int × Int)) (B : Nat) (w : World) (h0 : w.cell? ⟨p, 0, none⟩ = some (.slice A n c)) (h1 : w.cell? ⟨p, 1, none⟩ = some (.int .i64 lf)) (h2 : w.cell? ⟨p, 2, none⟩ = some (.int .i64 lu)) (hs : Secs w B A n l) (hn : n ≤ 9223372036854775807) :
    Calls Tryd.prog 11 #[.pointer (some ⟨p, 0, none⟩)] w fun e w' => e = .returned (.bool (trackB l lf lu)) ∧ ∃ m, w' = w.drewN m := by
  have HSS := Lib.hid hs
  obtain ⟨rfl, hs2⟩ := hs
  have HS := Lib.hid hs2
  clear hs2
  go_enter Tryd.func11, Tryd.ntmps11
  go_wp2
  go_loop [3] (fun i => ∃ k : Nat, k ≤ l.length ∧ i = .int .i64 k ∧ Hid (oksTo l k = true)) (fun i => l.length - (intOf i).toNat)
  case atStart => exact ⟨0, Nat.zero_le _, rfl, rfl⟩
  case round =>
    obtain ⟨k, hk, rfl, hu⟩ := hrel
    by_cases hlt : k < l.length
    · obtain ⟨b, off, rfl, _, hc⟩ := HS.out (by omega)
      obtain ⟨c1, c2⟩ := hc k hlt
      clear hc
      cases k1 : inB (secL l k) 1 3000000
      · have HF := Lib.hid (trackB_sec (l := l) (lf := lf) (lu := lu) hlt (by simp [secOk, k1]))
        go_wp2_with (go_at_call 21; refine (in_any _ _ _ _).mono ?_; rintro e w' ⟨rfl, rfl⟩)
        go_ret
        exact ⟨ret_bool HF.out.symm, 0, rfl⟩
      cases k2 : inB (secG l k) 0 900
      · have HF := Lib.hid (trackB_sec (l := l) (lf := lf) (lu := lu) hlt (by simp [secOk, k2]))
        go_wp2_with (go_at_call 21; refine (in_any _ _ _ _).mono ?_; rintro e w' ⟨rfl, rfl⟩)
        go_ret
        exact ⟨ret_bool HF.out.symm, 0, rfl⟩
      · have HT : Hid (oksTo l (k + 1) = true) := by show (oksTo l k && secOk l k) = true; rw [hu.out]; simp [secOk, k1, k2]
        go_wp2_with (go_at_call 21; refine (in_any _ _ _ _).mono ?_; rintro e w' ⟨rfl, rfl⟩)
        go_round
        case rel => exact ⟨k + 1, by omega, by go_num, HT⟩
        case measure => simp [intOf]; omega
    · have e : k = l.length := by omega
      subst e
      by_cases hz : l.length = 0
      · have HF := Lib.hid (trackB_short (lf := lf) (lu := lu) hz)
        have hz' : ((l.length : Int) == 0) = true := by simp [hz]
        clear hz
        go_wp2
        go_ret
        exact ⟨ret_bool HF.out.symm, 0, rfl⟩
      have hz' : ((l.length : Int) == 0) = false := by rw [beq_eq_false_iff_ne]; omega
      have hz2 : 0 < l.length := by omega
      clear hz
      by_cases hm : 12 < l.length
      · have HF := Lib.hid (trackB_long (lf := lf) (lu := lu) hm)
        have hm' : (12 : Int) < (l.length : Int) := by omega
        go_wp2
        go_ret
        exact ⟨ret_bool HF.out.symm, 0, rfl⟩
      have hg : GoodL l := ⟨by omega, fun i hi => oksTo_at hu.out i hi⟩
      have HL := Lib.hid (fun w h0 hs => specLength_any p A l.length c l B w h0 hs hg)
      obtain ⟨a1, a2⟩ := lenAll_bds hg
      have hm' : ¬ (12 : Int) < (l.length : Int) := by omega
      by_cases hlen : lenAll l ≤ 3000000
      · cases k1 : inB lf 0 (lenAll l)
        · have HF := Lib.hid (trackB_from (l := l) (lf := lf) (lu := lu) k1)
          have hd : decide (lenAll l ≤ 3000000) = true := decide_eq_true hlen
          go_wp2_with (go_at_call 22; refine (HL.out _ h0 HSS.out).mono ?_; rintro e w' ⟨rfl, rfl⟩)
          go_quiet ((go_at_call 21; exact Calls.quiet_of_same (in_same _ _ _ _)))
          go_wp2
          go_ret
          exact ⟨ret_bool HF.out.symm, _, rfl⟩
        cases k2 : inB lu lf (lenAll l)
        · have HF := Lib.hid (trackB_until (l := l) (lf := lf) (lu := lu) k2)
          have hd : decide (lenAll l ≤ 3000000) = true := decide_eq_true hlen
          go_wp2_with (go_at_call 22; refine (HL.out _ h0 HSS.out).mono ?_; rintro e w' ⟨rfl, rfl⟩)
          go_quiet ((go_at_call 21; exact Calls.quiet_of_same (in_same _ _ _ _)))
          go_wp2
          go_ret
          exact ⟨ret_bool HF.out.symm, _, rfl⟩
        · have HF := Lib.hid (trackB_ok (l := l) (lf := lf) (lu := lu) hz2 (by omega) hu.out hlen k1 k2)
          have hd : decide (lenAll l ≤ 3000000) = true := decide_eq_true hlen
          go_wp2_with (go_at_call 22; refine (HL.out _ h0 HSS.out).mono ?_; rintro e w' ⟨rfl, rfl⟩)
          go_quiet ((go_at_call 21; exact Calls.quiet_of_same (in_same _ _ _ _)))
          go_wp2
          go_ret
          exact ⟨ret_bool HF.out.symm, _, rfl⟩
      · have HF := Lib.hid (trackB_len (l := l) (lf := lf) (lu := lu) hlen)
        have hd : decide (lenAll l ≤ 3000000) = false := decide_eq_false hlen
        go_wp2_with (go_at_call 22; refine (HL.out _ h0 HSS.out).mono ?_; rintro e w' ⟨rfl, rfl⟩)
        go_quiet ((go_at_call 21; exact Calls.quiet_of_same (in_same _ _ _ _)))
        go_wp2
        go_ret
        exact ⟨ret_bool HF.out.symm, _, rfl⟩
end Go.Proofs.YtomkldkmaabbnaaDoor.TrkA
