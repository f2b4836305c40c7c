/- The walk of the program's test of a track. -/
import Derived.Test.YtomkldkmaabbnaaDoorTrkA
namespace Go.Proofs.YtomkldkmaabbnaaDoor.TrkB
open Go.RowKit Go.Proofs.YtomkldkmaabbnaaDoor.Plain Go.Proofs.YtomkldkmaabbnaaDoor.TrkP Go.Proofs.YtomkldkmaabbnaaDoor.WalkA Go.Proofs.YtomkldkmaabbnaaDoor.TrkA

/-- A box of a track at block p lies on while all below stays. -/
theorem box_step {p : Nat} {W wc w2 : World} {v0 v1 v2 : Value} (hz : Hid (W.heap.size = p + 1)) (h0 : wc.cell? ⟨p, 0, none⟩ = some v0) (h1 : wc.cell? ⟨p, 1, none⟩ = some v1) (h2 : wc.cell? ⟨p, 2, none⟩ = some v2) (hb : Below (p + 1) W wc) (h : Below wc.heap.size wc w2) :
    w2.cell? ⟨p, 0, none⟩ = some v0 ∧ w2.cell? ⟨p, 1, none⟩ = some v1 ∧ w2.cell? ⟨p, 2, none⟩ = some v2 ∧ Below (p + 1) W w2 := by
  have hp : p < wc.heap.size := by have := hb.size; have := hz.out; omega
  exact ⟨(h.cell (p := ⟨p, 0, none⟩) hp).trans h0, (h.cell (p := ⟨p, 1, none⟩) hp).trans h1, (h.cell (p := ⟨p, 2, none⟩) hp).trans h2, hb.trans (h.mono hp)⟩

set_option linter.unusedSimpArgs false in
set_option maxHeartbeats 4000000 in
theorem implValid_any (A : Option Addr) (n c : Nat) (lf lu : Int) (l : List (Int × Int)) (w : World) (hs : Secs w w.heap.size A n l) (hn : n ≤ 9223372036854775807) :
    Calls Tryd.prog 15 #[.agg #[.slice A n c, .int .i64 lf, .int .i64 lu]] w fun e w' => e = .returned (.bool (trackB l lf lu)) ∧ Below w.heap.size w w' := by
  have HS := Lib.hid hs
  obtain ⟨rfl, _⟩ := hs
  by_cases hz : l.length = 0
  · have HF := Lib.hid (trackB_short (lf := lf) (lu := lu) hz)
    have hz' : (l.length : Int) < 1 := by omega
    clear hz
    go_enter Tryd.func15, Tryd.ntmps15
    go_wp2
    go_ret
    exact ⟨ret_bool HF.out.symm, (Below.refl _ _).alloc (Nat.le_refl _) _⟩
  have hz' : ¬ (l.length : Int) < 1 := by omega
  have hz2 : 0 < l.length := by omega
  clear hz
  by_cases hm : 12 < l.length
  · have HF := Lib.hid (trackB_long (lf := lf) (lu := lu) hm)
    have hm' : (12 : Int) < (l.length : Int) := by omega
    go_enter Tryd.func15, Tryd.ntmps15
    go_wp2
    go_ret
    exact ⟨ret_bool HF.out.symm, (Below.refl _ _).alloc (Nat.le_refl _) _⟩
  have hm' : ¬ (12 : Int) < (l.length : Int) := by omega
  clear hn
  have d1 : decide ((l.length : Int) < 1) = false := decide_eq_false hz'
  have d2 : decide ((12 : Int) < (l.length : Int)) = false := decide_eq_false hm'
  have HB := Lib.hid ((Below.refl w.heap.size w).alloc (Nat.le_refl _) (.cells #[.slice A l.length c, .int .i64 lf, .int .i64 lu] 24))
  have hc0 : (w.alloc (.cells #[.slice A l.length c, .int .i64 lf, .int .i64 lu] 24)).cell? ⟨w.heap.size, 0, none⟩ = some (.slice A l.length c) := by go_simp
  have hc1 : (w.alloc (.cells #[.slice A l.length c, .int .i64 lf, .int .i64 lu] 24)).cell? ⟨w.heap.size, 1, none⟩ = some (.int .i64 lf) := by go_simp
  have hc2 : (w.alloc (.cells #[.slice A l.length c, .int .i64 lf, .int .i64 lu] 24)).cell? ⟨w.heap.size, 2, none⟩ = some (.int .i64 lu) := by go_simp
  have HC := Lib.hid (And.intro hc0 (And.intro hc1 hc2))
  have hsz : (w.alloc (.cells #[.slice A l.length c, .int .i64 lf, .int .i64 lu] 24)).heap.size = w.heap.size + 1 := by simp
  have HZ := Lib.hid hsz
  clear hc0 hc1 hc2 hsz
  go_enter Tryd.func15, Tryd.ntmps15
  go_wp2
  generalize w.alloc (.cells #[.slice A l.length c, .int .i64 lf, .int .i64 lu] 24) = W1 at *
  go_loopw [18] (fun i wr => ∃ k : Nat, k ≤ l.length ∧ i = .int .i64 k ∧ Hid (oksTo l k = true) ∧ Below (w.heap.size + 1) W1 wr) (fun i _ => l.length - (intOf i).toNat)
  case atStart => exact ⟨0, Nat.zero_le _, rfl, rfl, Below.refl _ _⟩
  case round =>
    obtain ⟨k, hk, rfl, hu, hbr⟩ := hrel
    have HBR := Lib.hid hbr
    have hwr : w.heap.size + 1 ≤ wr.heap.size := by have := hbr.size; have := HZ.out; omega
    have HBB : Hid (Below w.heap.size w wr) := HB.out.trans (hbr.mono (by omega))
    clear hbr
    by_cases hlt : k < l.length
    · obtain ⟨b, off, rfl, hb, hc⟩ := (HS.out.below HBB.out HBB.out.size).2 (by omega)
      obtain ⟨c1, c2⟩ := hc k hlt
      clear hc
      cases k1 : inB (secL l k) 1 3000000
      · have HF := Lib.hid (trackB_sec (l := l) (lf := lf) (lu := lu) hlt (by simp [secOk, k1]))
        go_wp2_with (go_at_call 28; refine (within_any _ _ _ _).mono ?_; rintro e w' ⟨rfl, rfl⟩)
        go_ret
        exact ⟨ret_bool HF.out.symm, HBB.out.alloc (by omega) _⟩
      cases k2 : inB (secG l k) 0 900
      · have HF := Lib.hid (trackB_sec (l := l) (lf := lf) (lu := lu) hlt (by simp [secOk, k2]))
        go_wp2_with (go_at_call 28; refine (within_any _ _ _ _).mono ?_; rintro e w' ⟨rfl, rfl⟩)
        go_ret
        exact ⟨ret_bool HF.out.symm, HBB.out.alloc (by omega) _⟩
      · have HT : Hid (oksTo l (k + 1) = true) := by show (oksTo l k && secOk l k) = true; rw [hu.out]; simp [secOk, k1, k2]
        go_wp2_with (go_at_call 28; refine (within_any _ _ _ _).mono ?_; rintro e w' ⟨rfl, rfl⟩)
        go_roundw
        case rel => exact ⟨k + 1, by omega, by go_num, HT, HBR.out.alloc (by omega) _⟩
        case measure => simp [intOf]; omega
    · have e : k = l.length := by omega
      subst e
      have hg : GoodL l := ⟨by omega, fun i hi => oksTo_at hu.out i hi⟩
      obtain ⟨a1, a2⟩ := lenAll_bds hg
      obtain ⟨q0, q1, q2⟩ := HC.out
      have r0 := (HBR.out.cell (p := ⟨w.heap.size, 0, none⟩) (show w.heap.size < _ by omega)).trans q0
      have r1 := (HBR.out.cell (p := ⟨w.heap.size, 1, none⟩) (show w.heap.size < _ by omega)).trans q1
      have r2 := (HBR.out.cell (p := ⟨w.heap.size, 2, none⟩) (show w.heap.size < _ by omega)).trans q2
      clear q0 q1 q2
      have HL : Hid (∀ wx : World, Below (w.heap.size + 1) W1 wx → Calls Tryd.prog 29 #[.agg #[.slice A l.length c, .int .i64 lf, .int .i64 lu]] wx fun e w' => e = .returned (.int .i64 (lenAll l)) ∧ Below wx.heap.size wx w') :=
        fun wx hx => implLength_any A l.length c lf lu l wx (HS.out.below (HB.out.trans (hx.mono (by omega))) (by have := HB.out.size; have := hx.size; omega)) hg
      by_cases hlen : lenAll l ≤ 3000000
      · have hd : decide (lenAll l ≤ 3000000) = true := decide_eq_true hlen
        cases k1 : inB lf 0 (lenAll l)
        · have HF := Lib.hid (trackB_from (l := l) (lf := lf) (lu := lu) k1)
          have hbr := HBR.out
          go_wp2
          refine wp_region_held_drew (S := (fun w' => w'.cell? ⟨w.heap.size, 0, none⟩ = some (.slice A l.length c) ∧ w'.cell? ⟨w.heap.size, 1, none⟩ = some (.int .i64 lf) ∧ w'.cell? ⟨w.heap.size, 2, none⟩ = some (.int .i64 lu) ∧ Below (w.heap.size + 1) W1 w')) (by kernel_rfl) ⟨r0, r1, r2, hbr.drew⟩ (fun hHeld => ?_)
          refine wpAnyH_take (i := 0) (v := ?va0) (by simp only [List.getElem?_toArray, List.getElem?_cons_succ, List.getElem?_cons_zero]; exact rfl) (by kernel_rfl) (by kernel_rfl) (by kernel_rfl) (by exact fun _ _ _ h => h) (Or.inl ⟨by kernel_rfl, ?ha0⟩) (by assumption) ?ra0
          case ha0 => (intro w hSw; (try dsimp only at hSw); go_simp; try (with_reducible rfl))
          try simp only [Act.put, List.setIfInBounds_toArray, List.set_cons_zero, List.set_cons_succ]
          refine wpAnyH_ready (rs := [1]) (by kernel_rfl) (by simp) ?_
          refine AllReadyH.cons rfl (fun K hK => ?_) AllReadyH.nil
          go_simp
          (refine (HL.out _ ?_).mono ?_; (go_split_ands; assumption); rintro e w2 ⟨rfl, hb2⟩)
          refine hK.out _ _ ?_ (fun hHeld => ?_)
          · (first | (go_split_ands; exact ⟨by assumption, by assumption, by assumption, by assumption⟩) | (go_split_ands; exact box_step HZ (by assumption) (by assumption) (by assumption) (by assumption) (by assumption)))
          clear hK K
          try simp only [Act.put, List.setIfInBounds_toArray, List.set_cons_zero, List.set_cons_succ]
          refine wpAnyH_take (i := 2) (v := ?va2) (by simp only [List.getElem?_toArray, List.getElem?_cons_succ, List.getElem?_cons_zero]; exact rfl) (by kernel_rfl) (by kernel_rfl) (by kernel_rfl) (by exact fun _ _ _ h => h) (Or.inl ⟨by kernel_rfl, ?ha2⟩) (by assumption) ?ra2
          case ha2 => (intro w hSw; (try dsimp only at hSw); go_simp; try (with_reducible rfl))
          try simp only [Act.put, List.setIfInBounds_toArray, List.set_cons_zero, List.set_cons_succ]
          refine wpAnyH_take (i := 3) (v := ?va3) (by simp only [List.getElem?_toArray, List.getElem?_cons_succ, List.getElem?_cons_zero]; exact rfl) (by kernel_rfl) (by kernel_rfl) (by kernel_rfl) (by exact fun _ _ _ h => h) (Or.inl ⟨by kernel_rfl, ?ha3⟩) (by assumption) ?ra3
          case ha3 => (intro w hSw; (try dsimp only at hSw); go_simp; try (with_reducible rfl))
          try simp only [Act.put, List.setIfInBounds_toArray, List.set_cons_zero, List.set_cons_succ]
          refine wpAnyH_take (i := 4) (v := ?va4) (by simp only [List.getElem?_toArray, List.getElem?_cons_succ, List.getElem?_cons_zero]; exact rfl) (by kernel_rfl) (by kernel_rfl) (by kernel_rfl) (by exact fun _ _ _ h => h) (Or.inl ⟨by kernel_rfl, ?ha4⟩) (by assumption) ?ra4
          case ha4 => (intro w hSw; (try dsimp only at hSw); go_simp; try (with_reducible rfl))
          try simp only [Act.put, List.setIfInBounds_toArray, List.set_cons_zero, List.set_cons_succ]
          refine wpAnyH_take (i := 5) (v := ?va5) (by simp only [List.getElem?_toArray, List.getElem?_cons_succ, List.getElem?_cons_zero]; exact rfl) (by kernel_rfl) (by kernel_rfl) (by kernel_rfl) (by exact fun _ _ _ h => h) (Or.inl ⟨by kernel_rfl, ?ha5⟩) (by assumption) ?ra5
          case ha5 => (intro w hSw; (try dsimp only at hSw); go_simp; try (with_reducible rfl))
          try simp only [Act.put, List.setIfInBounds_toArray, List.set_cons_zero, List.set_cons_succ]
          refine wpAnyH_take (i := 6) (v := ?va6) (by simp only [List.getElem?_toArray, List.getElem?_cons_succ, List.getElem?_cons_zero]; exact rfl) (by kernel_rfl) (by kernel_rfl) (by kernel_rfl) (by exact fun _ _ _ h => h) (Or.inl ⟨by kernel_rfl, ?ha6⟩) (by assumption) ?ra6
          case ha6 => (intro w hSw; (try dsimp only at hSw); go_simp; try (with_reducible rfl))
          try simp only [Act.put, List.setIfInBounds_toArray, List.set_cons_zero, List.set_cons_succ]
          refine wpAnyH_ready (rs := [7]) (by kernel_rfl) (by simp) ?_
          refine AllReadyH.cons rfl (fun K hK => ?_) AllReadyH.nil
          go_simp
          (refine (HL.out _ ?_).mono ?_; (go_split_ands; assumption); rintro e w2 ⟨rfl, hb2⟩)
          refine hK.out _ _ ?_ (fun hHeld => ?_)
          · (first | (go_split_ands; exact ⟨by assumption, by assumption, by assumption, by assumption⟩) | (go_split_ands; exact box_step HZ (by assumption) (by assumption) (by assumption) (by assumption) (by assumption)))
          clear hK K
          try simp only [Act.put, List.setIfInBounds_toArray, List.set_cons_zero, List.set_cons_succ]
          refine wpAnyH_ready (rs := [8]) (by kernel_rfl) (by simp) ?_
          refine AllReadyH.cons rfl (fun K hK => ?_) AllReadyH.nil
          go_simp
          (refine (within_any _ _ _ _).mono ?_; rintro e w' ⟨rfl, rfl⟩)
          refine hK.out _ _ ?_ (fun hHeld => ?_)
          · (first | (go_split_ands; exact ⟨by assumption, by assumption, by assumption, by assumption⟩) | (go_split_ands; exact box_step HZ (by assumption) (by assumption) (by assumption) (by assumption) (by assumption)))
          clear hK K
          try simp only [Act.put, List.setIfInBounds_toArray, List.set_cons_zero, List.set_cons_succ]
          refine wpAnyH_take (i := 9) (v := ?va9) (by simp only [List.getElem?_toArray, List.getElem?_cons_succ, List.getElem?_cons_zero]; exact rfl) (by kernel_rfl) (by kernel_rfl) (by kernel_rfl) (by exact fun _ _ _ h => h) (Or.inl ⟨by kernel_rfl, ?ha9⟩) (by assumption) ?ra9
          case ha9 => (intro w hSw; (try dsimp only at hSw); go_simp; try (with_reducible rfl))
          try simp only [Act.put, List.setIfInBounds_toArray, List.set_cons_zero, List.set_cons_succ]
          refine wpAnyH_take (i := 10) (v := ?va10) (by simp only [List.getElem?_toArray, List.getElem?_cons_succ, List.getElem?_cons_zero]; exact rfl) (by kernel_rfl) (by kernel_rfl) (by kernel_rfl) (by exact fun _ _ _ h => h) (Or.inl ⟨by kernel_rfl, ?ha10⟩) (by assumption) ?ra10
          case ha10 => (intro w hSw; (try dsimp only at hSw); go_simp; try (with_reducible rfl))
          try simp only [Act.put, List.setIfInBounds_toArray, List.set_cons_zero, List.set_cons_succ]
          refine wpAnyH_take (i := 11) (v := undef) (by simp only [List.getElem?_toArray, List.getElem?_cons_succ, List.getElem?_cons_zero]; exact rfl) (by kernel_rfl) (by kernel_rfl) (by kernel_rfl) (by exact fun _ _ _ h => h) (Or.inr ⟨by kernel_rfl, rfl⟩) (by assumption) ?_
          try simp only [Act.put, List.setIfInBounds_toArray, List.set_cons_zero, List.set_cons_succ]
          refine wpAnyH_take (i := 12) (v := undef) (by simp only [List.getElem?_toArray, List.getElem?_cons_succ, List.getElem?_cons_zero]; exact rfl) (by kernel_rfl) (by kernel_rfl) (by kernel_rfl) (by exact fun _ _ _ h => h) (Or.inr ⟨by kernel_rfl, rfl⟩) (by assumption) ?_
          try simp only [Act.put, List.setIfInBounds_toArray, List.set_cons_zero, List.set_cons_succ]
          refine wpAnyH_take (i := 13) (v := undef) (by simp only [List.getElem?_toArray, List.getElem?_cons_succ, List.getElem?_cons_zero]; exact rfl) (by kernel_rfl) (by kernel_rfl) (by kernel_rfl) (by exact fun _ _ _ h => h) (Or.inr ⟨by kernel_rfl, rfl⟩) (by assumption) ?_
          try simp only [Act.put, List.setIfInBounds_toArray, List.set_cons_zero, List.set_cons_succ]
          refine wpAnyH_take (i := 14) (v := undef) (by simp only [List.getElem?_toArray, List.getElem?_cons_succ, List.getElem?_cons_zero]; exact rfl) (by kernel_rfl) (by kernel_rfl) (by kernel_rfl) (by exact fun _ _ _ h => h) (Or.inr ⟨by kernel_rfl, rfl⟩) (by assumption) ?_
          try simp only [Act.put, List.setIfInBounds_toArray, List.set_cons_zero, List.set_cons_succ]
          refine wpAnyH_take (i := 15) (v := undef) (by simp only [List.getElem?_toArray, List.getElem?_cons_succ, List.getElem?_cons_zero]; exact rfl) (by kernel_rfl) (by kernel_rfl) (by kernel_rfl) (by exact fun _ _ _ h => h) (Or.inr ⟨by kernel_rfl, rfl⟩) (by assumption) ?_
          try simp only [Act.put, List.setIfInBounds_toArray, List.set_cons_zero, List.set_cons_succ]
          refine wpAnyH_take (i := 16) (v := undef) (by simp only [List.getElem?_toArray, List.getElem?_cons_succ, List.getElem?_cons_zero]; exact rfl) (by kernel_rfl) (by kernel_rfl) (by kernel_rfl) (by exact fun _ _ _ h => h) (Or.inr ⟨by kernel_rfl, rfl⟩) (by assumption) ?_
          try simp only [Act.put, List.setIfInBounds_toArray, List.set_cons_zero, List.set_cons_succ]
          refine wpAnyH_take (i := 17) (v := undef) (by simp only [List.getElem?_toArray, List.getElem?_cons_succ, List.getElem?_cons_zero]; exact rfl) (by kernel_rfl) (by kernel_rfl) (by kernel_rfl) (by exact fun _ _ _ h => h) (Or.inr ⟨by kernel_rfl, rfl⟩) (by assumption) ?_
          try simp only [Act.put, List.setIfInBounds_toArray, List.set_cons_zero, List.set_cons_succ]
          refine wpAnyH_take (i := 18) (v := ?va18) (by simp only [List.getElem?_toArray, List.getElem?_cons_succ, List.getElem?_cons_zero]; exact rfl) (by kernel_rfl) (by kernel_rfl) (by kernel_rfl) (by exact fun _ _ _ h => h) (Or.inl ⟨by kernel_rfl, ?ha18⟩) (by assumption) ?ra18
          case ha18 => (intro w hSw; (try dsimp only at hSw); go_simp; try (with_reducible rfl))
          try simp only [Act.put, List.setIfInBounds_toArray, List.set_cons_zero, List.set_cons_succ]
          refine wpAnyH_take (i := 19) (v := ?va19) (by simp only [List.getElem?_toArray, List.getElem?_cons_succ, List.getElem?_cons_zero]; exact rfl) (by kernel_rfl) (by kernel_rfl) (by kernel_rfl) (by exact fun _ _ _ h => h) (Or.inl ⟨by kernel_rfl, ?ha19⟩) (by assumption) ?ra19
          case ha19 => (intro w hSw; (try dsimp only at hSw); go_simp; try (with_reducible rfl))
          try simp only [Act.put, List.setIfInBounds_toArray, List.set_cons_zero, List.set_cons_succ]
          refine wpAnyH_done (by kernel_rfl) ?_ _
          go_wp2
          go_ret
          refine ⟨ret_bool HF.out.symm, HB.out.trans (Below.mono (B := w.heap.size + 1) ?_ (by omega))⟩
          go_split_ands
          assumption
        cases k2 : inB lu lf (lenAll l)
        · have HF := Lib.hid (trackB_until (l := l) (lf := lf) (lu := lu) k2)
          have hbr := HBR.out
          go_wp2
          go_region_held3 (fun w' => w'.cell? ⟨w.heap.size, 0, none⟩ = some (.slice A l.length c) ∧ w'.cell? ⟨w.heap.size, 1, none⟩ = some (.int .i64 lf) ∧ w'.cell? ⟨w.heap.size, 2, none⟩ = some (.int .i64 lu) ∧ Below (w.heap.size + 1) W1 w') (first | exact ⟨r0, r1, r2, hbr.drew⟩ | (go_split_ands; exact ⟨by assumption, by assumption, by assumption, by assumption⟩) | (go_split_ands; exact box_step HZ (by assumption) (by assumption) (by assumption) (by assumption) (by assumption)))
            (first | (go_at_call 29; refine (HL.out _ ?_).mono ?_; (go_split_ands; assumption); rintro e w2 ⟨rfl, hb2⟩) | (go_at_call 28; refine (within_any _ _ _ _).mono ?_; rintro e w' ⟨rfl, rfl⟩))
          go_wp2
          go_ret
          refine ⟨ret_bool HF.out.symm, HB.out.trans (Below.mono (B := w.heap.size + 1) ?_ (by omega))⟩
          go_split_ands
          assumption
        · have HF := Lib.hid (trackB_ok (l := l) (lf := lf) (lu := lu) hz2 (by omega) hu.out hlen k1 k2)
          have hbr := HBR.out
          go_wp2
          go_region_held3 (fun w' => w'.cell? ⟨w.heap.size, 0, none⟩ = some (.slice A l.length c) ∧ w'.cell? ⟨w.heap.size, 1, none⟩ = some (.int .i64 lf) ∧ w'.cell? ⟨w.heap.size, 2, none⟩ = some (.int .i64 lu) ∧ Below (w.heap.size + 1) W1 w') (first | exact ⟨r0, r1, r2, hbr.drew⟩ | (go_split_ands; exact ⟨by assumption, by assumption, by assumption, by assumption⟩) | (go_split_ands; exact box_step HZ (by assumption) (by assumption) (by assumption) (by assumption) (by assumption)))
            (first | (go_at_call 29; refine (HL.out _ ?_).mono ?_; (go_split_ands; assumption); rintro e w2 ⟨rfl, hb2⟩) | (go_at_call 28; refine (within_any _ _ _ _).mono ?_; rintro e w' ⟨rfl, rfl⟩))
          go_wp2
          go_ret
          refine ⟨ret_bool HF.out.symm, HB.out.trans (Below.mono (B := w.heap.size + 1) ?_ (by omega))⟩
          go_split_ands
          assumption
      · have hd : decide (lenAll l ≤ 3000000) = false := decide_eq_false hlen
        · have HF := Lib.hid (trackB_len (l := l) (lf := lf) (lu := lu) hlen)
          have hbr := HBR.out
          go_wp2
          refine wp_region_held_drew (S := (fun w' => w'.cell? ⟨w.heap.size, 0, none⟩ = some (.slice A l.length c) ∧ w'.cell? ⟨w.heap.size, 1, none⟩ = some (.int .i64 lf) ∧ w'.cell? ⟨w.heap.size, 2, none⟩ = some (.int .i64 lu) ∧ Below (w.heap.size + 1) W1 w')) (by kernel_rfl) ⟨r0, r1, r2, hbr.drew⟩ (fun hHeld => ?_)
          refine wpAnyH_take (i := 0) (v := ?vb0) (by simp only [List.getElem?_toArray, List.getElem?_cons_succ, List.getElem?_cons_zero]; exact rfl) (by kernel_rfl) (by kernel_rfl) (by kernel_rfl) (by exact fun _ _ _ h => h) (Or.inl ⟨by kernel_rfl, ?hb0⟩) (by assumption) ?rb0
          case hb0 => (intro w hSw; (try dsimp only at hSw); go_simp; try (with_reducible rfl))
          try simp only [Act.put, List.setIfInBounds_toArray, List.set_cons_zero, List.set_cons_succ]
          refine wpAnyH_ready (rs := [1]) (by kernel_rfl) (by simp) ?_
          refine AllReadyH.cons rfl (fun K hK => ?_) AllReadyH.nil
          go_simp
          (refine (HL.out _ ?_).mono ?_; (go_split_ands; assumption); rintro e w2 ⟨rfl, hb2⟩)
          refine hK.out _ _ ?_ (fun hHeld => ?_)
          · (first | (go_split_ands; exact ⟨by assumption, by assumption, by assumption, by assumption⟩) | (go_split_ands; exact box_step HZ (by assumption) (by assumption) (by assumption) (by assumption) (by assumption)))
          clear hK K
          try simp only [Act.put, List.setIfInBounds_toArray, List.set_cons_zero, List.set_cons_succ]
          refine wpAnyH_take (i := 2) (v := ?vb2) (by simp only [List.getElem?_toArray, List.getElem?_cons_succ, List.getElem?_cons_zero]; exact rfl) (by kernel_rfl) (by kernel_rfl) (by kernel_rfl) (by exact fun _ _ _ h => h) (Or.inl ⟨by kernel_rfl, ?hb2⟩) (by assumption) ?rb2
          case hb2 => (intro w hSw; (try dsimp only at hSw); go_simp; try (with_reducible rfl))
          try simp only [Act.put, List.setIfInBounds_toArray, List.set_cons_zero, List.set_cons_succ]
          refine wpAnyH_take (i := 3) (v := ?vb3) (by simp only [List.getElem?_toArray, List.getElem?_cons_succ, List.getElem?_cons_zero]; exact rfl) (by kernel_rfl) (by kernel_rfl) (by kernel_rfl) (by exact fun _ _ _ h => h) (Or.inl ⟨by kernel_rfl, ?hb3⟩) (by assumption) ?rb3
          case hb3 => (intro w hSw; (try dsimp only at hSw); go_simp; try (with_reducible rfl))
          try simp only [Act.put, List.setIfInBounds_toArray, List.set_cons_zero, List.set_cons_succ]
          refine wpAnyH_take (i := 4) (v := undef) (by simp only [List.getElem?_toArray, List.getElem?_cons_succ, List.getElem?_cons_zero]; exact rfl) (by kernel_rfl) (by kernel_rfl) (by kernel_rfl) (by exact fun _ _ _ h => h) (Or.inr ⟨by kernel_rfl, rfl⟩) (by assumption) ?_
          try simp only [Act.put, List.setIfInBounds_toArray, List.set_cons_zero, List.set_cons_succ]
          refine wpAnyH_take (i := 5) (v := undef) (by simp only [List.getElem?_toArray, List.getElem?_cons_succ, List.getElem?_cons_zero]; exact rfl) (by kernel_rfl) (by kernel_rfl) (by kernel_rfl) (by exact fun _ _ _ h => h) (Or.inr ⟨by kernel_rfl, rfl⟩) (by assumption) ?_
          try simp only [Act.put, List.setIfInBounds_toArray, List.set_cons_zero, List.set_cons_succ]
          refine wpAnyH_take (i := 6) (v := undef) (by simp only [List.getElem?_toArray, List.getElem?_cons_succ, List.getElem?_cons_zero]; exact rfl) (by kernel_rfl) (by kernel_rfl) (by kernel_rfl) (by exact fun _ _ _ h => h) (Or.inr ⟨by kernel_rfl, rfl⟩) (by assumption) ?_
          try simp only [Act.put, List.setIfInBounds_toArray, List.set_cons_zero, List.set_cons_succ]
          refine wpAnyH_take (i := 7) (v := undef) (by simp only [List.getElem?_toArray, List.getElem?_cons_succ, List.getElem?_cons_zero]; exact rfl) (by kernel_rfl) (by kernel_rfl) (by kernel_rfl) (by exact fun _ _ _ h => h) (Or.inr ⟨by kernel_rfl, rfl⟩) (by assumption) ?_
          try simp only [Act.put, List.setIfInBounds_toArray, List.set_cons_zero, List.set_cons_succ]
          refine wpAnyH_take (i := 8) (v := undef) (by simp only [List.getElem?_toArray, List.getElem?_cons_succ, List.getElem?_cons_zero]; exact rfl) (by kernel_rfl) (by kernel_rfl) (by kernel_rfl) (by exact fun _ _ _ h => h) (Or.inr ⟨by kernel_rfl, rfl⟩) (by assumption) ?_
          try simp only [Act.put, List.setIfInBounds_toArray, List.set_cons_zero, List.set_cons_succ]
          refine wpAnyH_take (i := 9) (v := ?vb9) (by simp only [List.getElem?_toArray, List.getElem?_cons_succ, List.getElem?_cons_zero]; exact rfl) (by kernel_rfl) (by kernel_rfl) (by kernel_rfl) (by exact fun _ _ _ h => h) (Or.inl ⟨by kernel_rfl, ?hb9⟩) (by assumption) ?rb9
          case hb9 => (intro w hSw; (try dsimp only at hSw); go_simp; try (with_reducible rfl))
          try simp only [Act.put, List.setIfInBounds_toArray, List.set_cons_zero, List.set_cons_succ]
          refine wpAnyH_take (i := 10) (v := ?vb10) (by simp only [List.getElem?_toArray, List.getElem?_cons_succ, List.getElem?_cons_zero]; exact rfl) (by kernel_rfl) (by kernel_rfl) (by kernel_rfl) (by exact fun _ _ _ h => h) (Or.inl ⟨by kernel_rfl, ?hb10⟩) (by assumption) ?rb10
          case hb10 => (intro w hSw; (try dsimp only at hSw); go_simp; try (with_reducible rfl))
          try simp only [Act.put, List.setIfInBounds_toArray, List.set_cons_zero, List.set_cons_succ]
          refine wpAnyH_take (i := 11) (v := undef) (by simp only [List.getElem?_toArray, List.getElem?_cons_succ, List.getElem?_cons_zero]; exact rfl) (by kernel_rfl) (by kernel_rfl) (by kernel_rfl) (by exact fun _ _ _ h => h) (Or.inr ⟨by kernel_rfl, rfl⟩) (by assumption) ?_
          try simp only [Act.put, List.setIfInBounds_toArray, List.set_cons_zero, List.set_cons_succ]
          refine wpAnyH_take (i := 12) (v := undef) (by simp only [List.getElem?_toArray, List.getElem?_cons_succ, List.getElem?_cons_zero]; exact rfl) (by kernel_rfl) (by kernel_rfl) (by kernel_rfl) (by exact fun _ _ _ h => h) (Or.inr ⟨by kernel_rfl, rfl⟩) (by assumption) ?_
          try simp only [Act.put, List.setIfInBounds_toArray, List.set_cons_zero, List.set_cons_succ]
          refine wpAnyH_take (i := 13) (v := undef) (by simp only [List.getElem?_toArray, List.getElem?_cons_succ, List.getElem?_cons_zero]; exact rfl) (by kernel_rfl) (by kernel_rfl) (by kernel_rfl) (by exact fun _ _ _ h => h) (Or.inr ⟨by kernel_rfl, rfl⟩) (by assumption) ?_
          try simp only [Act.put, List.setIfInBounds_toArray, List.set_cons_zero, List.set_cons_succ]
          refine wpAnyH_take (i := 14) (v := undef) (by simp only [List.getElem?_toArray, List.getElem?_cons_succ, List.getElem?_cons_zero]; exact rfl) (by kernel_rfl) (by kernel_rfl) (by kernel_rfl) (by exact fun _ _ _ h => h) (Or.inr ⟨by kernel_rfl, rfl⟩) (by assumption) ?_
          try simp only [Act.put, List.setIfInBounds_toArray, List.set_cons_zero, List.set_cons_succ]
          refine wpAnyH_take (i := 15) (v := undef) (by simp only [List.getElem?_toArray, List.getElem?_cons_succ, List.getElem?_cons_zero]; exact rfl) (by kernel_rfl) (by kernel_rfl) (by kernel_rfl) (by exact fun _ _ _ h => h) (Or.inr ⟨by kernel_rfl, rfl⟩) (by assumption) ?_
          try simp only [Act.put, List.setIfInBounds_toArray, List.set_cons_zero, List.set_cons_succ]
          refine wpAnyH_take (i := 16) (v := undef) (by simp only [List.getElem?_toArray, List.getElem?_cons_succ, List.getElem?_cons_zero]; exact rfl) (by kernel_rfl) (by kernel_rfl) (by kernel_rfl) (by exact fun _ _ _ h => h) (Or.inr ⟨by kernel_rfl, rfl⟩) (by assumption) ?_
          try simp only [Act.put, List.setIfInBounds_toArray, List.set_cons_zero, List.set_cons_succ]
          refine wpAnyH_take (i := 17) (v := undef) (by simp only [List.getElem?_toArray, List.getElem?_cons_succ, List.getElem?_cons_zero]; exact rfl) (by kernel_rfl) (by kernel_rfl) (by kernel_rfl) (by exact fun _ _ _ h => h) (Or.inr ⟨by kernel_rfl, rfl⟩) (by assumption) ?_
          try simp only [Act.put, List.setIfInBounds_toArray, List.set_cons_zero, List.set_cons_succ]
          refine wpAnyH_take (i := 18) (v := ?vb18) (by simp only [List.getElem?_toArray, List.getElem?_cons_succ, List.getElem?_cons_zero]; exact rfl) (by kernel_rfl) (by kernel_rfl) (by kernel_rfl) (by exact fun _ _ _ h => h) (Or.inl ⟨by kernel_rfl, ?hb18⟩) (by assumption) ?rb18
          case hb18 => (intro w hSw; (try dsimp only at hSw); go_simp; try (with_reducible rfl))
          try simp only [Act.put, List.setIfInBounds_toArray, List.set_cons_zero, List.set_cons_succ]
          refine wpAnyH_take (i := 19) (v := ?vb19) (by simp only [List.getElem?_toArray, List.getElem?_cons_succ, List.getElem?_cons_zero]; exact rfl) (by kernel_rfl) (by kernel_rfl) (by kernel_rfl) (by exact fun _ _ _ h => h) (Or.inl ⟨by kernel_rfl, ?hb19⟩) (by assumption) ?rb19
          case hb19 => (intro w hSw; (try dsimp only at hSw); go_simp; try (with_reducible rfl))
          try simp only [Act.put, List.setIfInBounds_toArray, List.set_cons_zero, List.set_cons_succ]
          refine wpAnyH_done (by kernel_rfl) ?_ _
          go_wp2
          go_ret
          refine ⟨ret_bool HF.out.symm, HB.out.trans (Below.mono (B := w.heap.size + 1) ?_ (by omega))⟩
          go_split_ands
          assumption
end Go.Proofs.YtomkldkmaabbnaaDoor.TrkB
