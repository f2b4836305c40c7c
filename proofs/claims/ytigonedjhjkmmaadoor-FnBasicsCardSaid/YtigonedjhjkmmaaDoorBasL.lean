/- The walk of the law on basics. -/
import Derived.Test.YtigonedjhjkmmaaDoorBasA
import Derived.Test.YtigonedjhjkmmaaDoorBysO
import Derived.Deep.DeepCutAuto
namespace Go.Proofs.YtigonedjhjkmmaaDoor.BasL
set_option maxRecDepth 100000
open Go.RowKit Go.Proofs.YtigonedjhjkmmaaDoor.Plain Go.Proofs.YtigonedjhjkmmaaDoor.WalkA Go.Proofs.YtigonedjhjkmmaaDoor.WalkB Go.Proofs.YtigonedjhjkmmaaDoor.WalkC Go.Proofs.YtigonedjhjkmmaaDoor.WalkJ Go.Proofs.YtigonedjhjkmmaaDoor.TxtA Go.Proofs.YtigonedjhjkmmaaDoor.TxtB Go.Proofs.YtigonedjhjkmmaaDoor.TxtC Go.Proofs.YtigonedjhjkmmaaDoor.TxtG Go.Proofs.YtigonedjhjkmmaaDoor.TxtH Go.Proofs.YtigonedjhjkmmaaDoor.TxtN Go.Proofs.YtigonedjhjkmmaaDoor.TxtP Go.Proofs.YtigonedjhjkmmaaDoor.TxtQ Go.Proofs.YtigonedjhjkmmaaDoor.TxtR Go.Proofs.YtigonedjhjkmmaaDoor.TxtT Go.Proofs.YtigonedjhjkmmaaDoor.TxtY Go.Proofs.YtigonedjhjkmmaaDoor.BasP Go.Proofs.YtigonedjhjkmmaaDoor.BasA
open Go.Proofs.YtigonedjhjkmmaaDoor.SrcA (Bys r8Long_any r8Wide_any)
set_option maxHeartbeats 40000000 in
theorem basics_law (A : Option Addr) (n c : Nat) (A' : Option Addr) (n' c' : Nat) (w : World) (hT : Shp w) (hE : Env w) (hA : Bys w w.heap.size A n) (hn : n ≤ 9223372036854775807) (hA' : Bys w w.heap.size A' n') (hn' : n' ≤ 9223372036854775807) :
    Calls Tryd.prog 3 #[.slice A n c, .slice A' n' c'] w fun e w' => e = .returned (.bool true) ∧ Below w.heap.size w w' := by
  have HL := Lib.hid (r8Long_any A A' n n' c c' hn hn' w)
  by_cases hlong : (decide (1048576 < n) || decide (1048576 < n')) = true
  · rw [hlong] at HL
    clear hlong
    go_enter Tryd.func3, Tryd.ntmps3
    go_wp2_with fail
    refine HL.out.mono ?_
    rintro e w1 ⟨rfl, rfl⟩
    go_wp2_with fail
    go_ret
    exact ⟨rfl, Below.refl _ _⟩
  have hl2 := Bool.eq_false_iff.2 hlong
  rw [hl2] at HL
  rw [Bool.or_eq_false_iff, decide_eq_false_iff_not, decide_eq_false_iff_not] at hl2
  have hn1 : n ≤ 1048576 := by omega
  have hn2 : n' ≤ 1048576 := by omega
  clear hlong hl2
  have HN := Lib.hid (r8Numbers_any A n c w hA hn1)
  have HW1 := Lib.hid (fun W (h : Below w.heap.size w W) => r8Wide_any A' n' c' 0 1000 (by omega) (by omega) W (hA'.below h h.size) hn2)
  have HW2 := Lib.hid (fun W (h : Below w.heap.size w W) => r8Wide_any A' n' c' 2 5000 (by omega) (by omega) W (hA'.below h h.size) hn2)
  have HW3 := Lib.hid (fun W (h : Below w.heap.size w W) => r8Wide_any A' n' c' 4 5000 (by omega) (by omega) W (hA'.below h h.size) hn2)
  have HE : Hid (∀ W, Below w.heap.size w W → Env W) := fun W h => hE.below h
  have HT : Hid (∀ W, Below w.heap.size w W → Shp W) := fun W h => hT.below h
  clear hA hA' hE hT
  go_enter Tryd.func3, Tryd.ntmps3
  go_wp2_with fail
  refine HL.out.mono ?_
  rintro e w1 ⟨rfl, rfl⟩
  go_wp2_with fail
  refine HN.out.mono ?_
  rintro e v0 ⟨a, b, a0, a1, b0, b1, rfl, hb0⟩
  have HB0 := Lib.hid hb0
  clear hb0
  obtain ⟨r, hr⟩ := root_exists a
  have HR := Lib.hid (implRoot_any a r (by omega) hr v0)
  obtain ⟨rf1, rf2⟩ := root_facts hr (by omega)
  have HRF := Lib.hid (And.intro rf1 rf2)
  clear hr rf1 rf2
  go_wp2_with fail
  refine HR.out.mono ?_
  rintro e v1 ⟨rfl, rfl⟩
  go_upto_region 5 with fail
  go_cut [61] (fun s wx => s = .bool false ∧ v0 = wx)
  case first =>
    by_cases h : a < 0
    · obtain rfl := HRF.out.1 h
      go_wp2_with fail
      go_meet
      exact ⟨rfl, rfl⟩
    · obtain ⟨r0, r1, r2, r3⟩ := HRF.out.2 (by omega)
      have r4 : ¬ a < r * r := by omega
      have r5 : ¬ (r + 1) * (r + 1) ≤ a := by omega
      have r6 : 0 ≤ r * r := Int.mul_nonneg r0 r0
      have r7 : (r + 1) * (r + 1) = r * r + 2 * r + 1 := by rw [Int.add_mul, Int.mul_add]; omega
      have r8 : r * r ≤ 3600000000 := by omega
      have r9 : (r + 1) * (r + 1) ≤ 3700000000 := by omega
      have r10 : 0 ≤ (r + 1) * (r + 1) := by omega
      clear r7
      go_wp2_with fail
      go_meet
      refine ⟨?_, rfl⟩
      rw [decide_eq_false (show ¬ r < 0 by omega), decide_eq_false (show ¬ 3000000000 < r by omega)]
      rfl
  case rest =>
  obtain ⟨rfl, rfl⟩ := hcut
  obtain ⟨q, hq⟩ : ∃ q, q = divR a b := ⟨_, rfl⟩
  have HD1 := Lib.hid (implDivRound_any a b v0)
  rw [divRound_is (by omega) (by omega), ← hq] at HD1
  have HD2 := Lib.hid (fun W => implDivRound_any (-a) b W)
  rw [divRound_neg (by omega) (by omega), ← hq] at HD2
  have hnear := near_facts (a := a) (b := b) (by omega)
  rw [← hq] at hnear
  clear hq
  have HAB := Lib.hid (fun W => r8Abs_any (a - q * b) (by omega) W)
  have hqb : -4000000000 ≤ q * b ∧ q * b ≤ 4000000000 := by omega
  obtain ⟨ab, hab⟩ : ∃ ab, ab = absI (a - q * b) := ⟨_, rfl⟩
  rw [← hab] at HAB
  have hab2 : 0 ≤ ab ∧ 2 * ab ≤ b := by rw [hab]; unfold absI; split <;> omega
  have hqs : -4000000000 ≤ q ∧ q ≤ 4000000000 := by
    rcases Int.lt_or_le q 0 with h | h
    · have := Int.mul_le_mul_of_nonpos_left (show q ≤ 0 by omega) (show (1 : Int) ≤ b by omega)
      omega
    · have := Int.mul_le_mul_of_nonneg_left (show (1 : Int) ≤ b by omega) h
      omega
  clear hab hnear HRF HR HN
  obtain ⟨ab0, ab1⟩ := hab2
  obtain ⟨qb0, qb1⟩ := hqb
  obtain ⟨q0, q1⟩ := hqs
  go_wp2_with fail
  refine HD1.out.mono ?_
  rintro e v1 ⟨rfl, hd⟩
  have HB1 := Lib.hid (HB0.out.trans ((hd.below v0.heap.size).mono HB0.out.size))
  clear hd
  go_wp2_with fail
  refine (HAB.out _).mono ?_
  rintro e v2 ⟨rfl, rfl⟩
  go_wp2_with fail
  refine (HD2.out _).mono ?_
  rintro e v2 ⟨rfl, hd⟩
  have HB2 := Lib.hid (HB1.out.trans ((hd.below v1.heap.size).mono HB1.out.size))
  clear hd HD1 HAB HD2
  go_wp2_with fail
  refine (HW1.out _ HB2.out).mono ?_
  rintro e v3 ⟨x, x0, x1, rfl, rfl⟩
  go_wp2_with fail
  refine (HW2.out _ HB2.out).mono ?_
  rintro e v3 ⟨y2, y0, y1, rfl, rfl⟩
  obtain ⟨y, hy⟩ : ∃ y, y = y2 - 2500 := ⟨_, rfl⟩
  go_wp2_with fail
  refine (HW3.out _ HB2.out).mono ?_
  rintro e v3 ⟨z2, z0, z1, rfl, rfl⟩
  obtain ⟨z, hz⟩ : ∃ z, z = z2 - 2500 := ⟨_, rfl⟩
  obtain ⟨bf1, bf2, bf3, bf4⟩ := blend_facts (y := y) (z := z) (x := x) (by omega) (by omega) (by omega)
  have HK1 := Lib.hid (fun W => implBlend_any 0 y 1000 z x W)
  have HK2 := Lib.hid (fun W => implBlend_any 0 y 1000 z 0 W)
  have HK3 := Lib.hid (fun W => implBlend_any 0 y 1000 z 1000 W)
  rw [bf1] at HK2
  rw [bf2] at HK3
  obtain ⟨bv, hbv⟩ : ∃ bv, bv = blendI 0 y 1000 z x := ⟨_, rfl⟩
  rw [← hbv] at HK1 bf3 bf4
  rw [hy, hz] at HK1 HK2 HK3
  obtain ⟨mn, hmn⟩ : ∃ mn, min (y2 - 2500) (z2 - 2500) = mn := ⟨_, rfl⟩
  obtain ⟨mx, hmx⟩ : ∃ mx, max (y2 - 2500) (z2 - 2500) = mx := ⟨_, rfl⟩
  have hbm : mn ≤ bv ∧ bv ≤ mx := by
    rw [← hmn, ← hmx]
    omega
  have h5 := five_at (a := a) (b := b) (x := x) (y := y2 - 2500) (z := z2 - 2500) (by omega) (by omega) (by omega) (by omega) (by omega)
  have hbvb : -2500 ≤ bv ∧ bv ≤ 2500 := by omega
  have H5 := Lib.hid h5
  clear bf1 bf2 bf3 bf4 hbv hy hz h5
  obtain ⟨bm1, bm2⟩ := hbm
  obtain ⟨bv0, bv1⟩ := hbvb
  go_wp2_with fail
  refine (HK1.out _).mono ?_
  rintro e v3 ⟨rfl, hb⟩
  have HB3 := Lib.hid (HB2.out.trans (hb.mono HB2.out.size))
  clear hb
  go_wp2_with fail
  refine (HK2.out _).mono ?_
  rintro e v4 ⟨rfl, hb⟩
  have HB4 := Lib.hid (HB3.out.trans (hb.mono HB3.out.size))
  clear hb
  go_wp2_with fail
  refine (HK3.out _).mono ?_
  rintro e v5 ⟨rfl, hb⟩
  have HB5 := Lib.hid (HB4.out.trans (hb.mono HB4.out.size))
  clear hb
  clear HK1 HK2 HK3 HW1 HW2 HW3
  have h5 := H5.out
  have hl5 : [a, b, x, y2 - 2500, z2 - 2500].length = 5 := rfl
  have hf5 := five_fits hl5 h5
  have hz5 := five_size hl5 h5
  have HI5 := Lib.hid (fun W => five_ints W a b x (y2 - 2500) (z2 - 2500) h5)
  have hin5 : In64 [a, b, x, y2 - 2500, z2 - 2500] := fun k hk => by
    have := h5 k hk
    omega
  obtain ⟨hrd, hrl⟩ := text_back hf5 (by omega)
  generalize hL : [a, b, x, y2 - 2500, z2 - 2500] = L at *
  have HIN := Lib.hid hin5
  have HLEN := Lib.hid hl5
  have HRD := Lib.hid (And.intro hrd hrl)
  clear hL h5 hf5 hin5 hl5 hrd hrl H5
  go_wp2_with fail
  have hal := below_alloc v5 (.cells #[.int .i64 a, .int .i64 b, .int .i64 x, .int .i64 (y2 - 2500), .int .i64 (z2 - 2500)] 2)
  have HB6 := Lib.hid (HB5.out.trans (hal.mono HB5.out.size))
  have HI6 := Lib.hid (HI5.out v5)
  clear hal HI5
  generalize v5.alloc (.cells #[.int .i64 a, .int .i64 b, .int .i64 x, .int .i64 (y2 - 2500), .int .i64 (z2 - 2500)] 2) = v6 at *
  generalize v5.heap.size = g5 at *
  have HLT := Lib.hid (implListText_any (some ⟨g5, 0, none⟩) 5 5 L v6 HI6.out (by omega) (HE.out _ HB6.out).tab)
  refine HLT.out.mono ?_
  rintro e v7 ⟨rfl, hb⟩
  have HB7 := Lib.hid (HB6.out.trans (hb.mono HB6.out.size))
  have HI7 := Lib.hid (HI6.out.below hb hb.size)
  have HRL := Lib.hid (implReadList_any (listT L) (by omega) v7 (HT.out _ HB7.out) (HE.out _ HB7.out))
  unfold RL at HRL
  clear hb HLT
  rw [HRD.out.1, HRD.out.2] at HRL
  generalize listT L = TX at *
  go_wp2_with fail
  refine HRL.out.mono ?_
  rintro e v8 ⟨bk, rfl, hown, hb⟩
  obtain ⟨A8, c8, rfl⟩ := OwnI.shape' HLEN.out hown
  have HI8 := Lib.hid (hown.ints HLEN.out.symm HIN.out)
  have HB8 := Lib.hid (HB7.out.trans (hb.mono HB7.out.size))
  have HI9 := Lib.hid (HI7.out.below hb hb.size)
  clear hb hown HRL
  have HDC := Lib.hid (implDecimal_any a (by omega) (by omega) v8 (HE.out _ HB8.out).tab)
  have hds := dec_size (n := a) (by omega) (by omega)
  have hdb := dec_back (n := a) (by omega)
  have HRDc := Lib.hid (fun W (h : Below w.heap.size w W) => implReadDecimal_any (dec a) (by omega) W (HE.out _ h))
  unfold NumI at HRDc
  rw [hdb] at HRDc
  clear hds hdb
  generalize dec a = DA at *
  go_wp2_with fail
  refine HDC.out.mono ?_
  rintro e v9 ⟨rfl, hb⟩
  have HB9 := Lib.hid (HB8.out.trans (hb.mono HB8.out.size))
  have HI10 := Lib.hid (HI9.out.below hb hb.size)
  have HI11 := Lib.hid (HI8.out.below hb hb.size)
  clear hb HDC
  go_wp2_with fail
  refine (HRDc.out _ HB9.out).mono ?_
  rintro e v10 ⟨rfl, hb⟩
  have HB10 := Lib.hid (HB9.out.trans (hb.mono HB9.out.size))
  have HS := Lib.hid (r8Same_any A8 (some ⟨g5, 0, none⟩) 5 c8 5 L v10 (HI11.out.below hb hb.size) (HI10.out.below hb hb.size) (by omega))
  clear hb HRDc
  go_wp2_with fail
  refine HS.out.mono ?_
  rintro e v11 ⟨rfl, m, rfl⟩
  go_wp2_with fail
  go_ret
  exact ⟨rfl, HB10.out.trans ((Drew.below ⟨m, rfl⟩ v10.heap.size).mono HB10.out.size)⟩
end Go.Proofs.YtigonedjhjkmmaaDoor.BasL
