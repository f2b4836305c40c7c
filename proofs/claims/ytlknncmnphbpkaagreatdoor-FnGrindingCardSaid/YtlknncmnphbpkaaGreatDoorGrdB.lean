/- The middle of the law on grinding: the order of grinding. -/
import Derived.Test.YtlknncmnphbpkaaGreatDoorGrdA
import Derived.Test.YtlknncmnphbpkaaGreatDoorGriD
import Derived.Test.YtlknncmnphbpkaaGreatDoorGriA
import Derived.Test.YtlknncmnphbpkaaGreatDoorGriH
import Derived.Test.YtlknncmnphbpkaaGreatDoorGrdQ
import Derived.Deep.QuietTactic
import Derived.BigQuiet
namespace Go.Proofs.YtlknncmnphbpkaaGreatDoor.GrdB
open Go.Proofs.YtlknncmnphbpkaaGreatDoor.GrdA Go.Proofs.YtlknncmnphbpkaaGreatDoor.GriA Go.Proofs.YtlknncmnphbpkaaGreatDoor.GriQ Go.Proofs.YtlknncmnphbpkaaGreatDoor.GriH Go.Proofs.YtlknncmnphbpkaaGreatDoor.GrdQ Go.Proofs.YtlknncmnphbpkaaGreatDoor.GriG
set_option maxRecDepth 100000
open Go.RowKit Go.Proofs.YtlknncmnphbpkaaGreatDoor.Plain Go.Proofs.YtlknncmnphbpkaaGreatDoor.WalkC Go.Proofs.YtlknncmnphbpkaaGreatDoor.WalkH Go.Proofs.YtlknncmnphbpkaaGreatDoor.BndA Go.Proofs.YtlknncmnphbpkaaGreatDoor.BndC Go.Proofs.YtlknncmnphbpkaaGreatDoor.BndE Go.Proofs.YtlknncmnphbpkaaGreatDoor.BndF Go.Proofs.YtlknncmnphbpkaaGreatDoor.BndG Go.Proofs.YtlknncmnphbpkaaGreatDoor.BlsA Go.Proofs.YtlknncmnphbpkaaGreatDoor.BlsD Go.Proofs.YtlknncmnphbpkaaGreatDoor.BlsE Go.Proofs.YtlknncmnphbpkaaGreatDoor.BdrB Go.Proofs.YtlknncmnphbpkaaGreatDoor.BdrC Go.Proofs.YtlknncmnphbpkaaGreatDoor.BdrD
open Go.Proofs.YtlknncmnphbpkaaGreatDoor.SrcA (Bys)
set_option maxRecDepth 1000000 in
set_option maxHeartbeats 8000000 in
theorem part5 (A A' : Option Addr) (n n' c c' : Nat) (w : World) (HA' : Hid (Bys w w.heap.size A' n')) (hn' : n' ≤ 1048576) (HR8 : Hid (RestG 8 A A' n n' c c' w)) : RestG 5 A A' n n' c c' w := by
  unfold RestG
  intro u2 u3 u4 u5 u6 u7 u8 u9 u10 u11 u12 u13 u14 u15 u16 u17 u18 u19 u20 u21 u22 u23 u24 u25 u26 u27 u28 u29 u30 u31 u32 u33 u34 u35 u36 u37 u38 u39 u40 u41 u42 u43 u44 u45 u46 u47 u48 u49 u50 u51 u52 u53 u54 u55 u56 u57 u58 u59 u60 u61 u62 u63 u64 u65 u66 u67 u68 u69 u70 u71 u72 u73 u74 u75 u76 u77 u78 u79 u80 u81 u82 u83 u84 u85 u86 u87 u88 u89 u90 u91 u92 u93 u94 u95 u96 u97 u98 u99 u100 u101 u102 u103 u104 u105 u106 u107 u108 u109 u110 u111 u112 u113 u114 u115 u116 u117 u118 u119 u120 u121 u122 u123 u124 u125 u126 u127 u128 u129 u130 u131 u132 u133 u134 u135 u136 u137 u138 u139 u140 u141 u142 u143 u144 u145 u146 u147 u148 u149 u150 u151 u152 u153 u154 u155 u156 u157 u158 u159 u160 u161 u162 u163 u164 u165 u166 u167 u168 u169 u170 u171 u172 u173 u174 u175 u176 u177 u178 u179 u180 u181 u182 u183 u184 u185 u186 u187 u188 u189 u190 u191 u192 u193 u194 u195 u196 u197 u198 u199 u200 u201 u202 u203 u204 u205 u206 u207 u208 u209 u210 u211 u212 u213 u214 u215 u216 u217 u218 u219 u220 u221 u222 u223 u224 u225 u226 u227 u228 u229 u230 u231 u232 u233 u234 u235 u236 u237 u238 u239 u240 u241 u242 u243 u244 u245 u246 u247 u248 u249 u250 u251 u252 u253 u254 u255 u256 u257 u258 u259 u260 u261 u262 u263 u264 W HB0
  have HD := Lib.hid (drawGrind_any A' n' c' W (HA'.out.below HB0.out HB0.out.size) hn')
  conv => arg 2; whnf
  go_wp2_with fail
  refine HD.out.mono ?_
  rintro e W1 ⟨v, bl, a, m, lim, rfl, hl, ho, hb⟩
  have HB1 := Lib.hid (HB0.out.trans (hb.mono HB0.out.size))
  obtain ⟨A3, c3, rfl, hbn⟩ := ho.bnds
  have HN := Lib.hid hbn
  have HI := Lib.hid (implGrind_any A3 bl.length c3 bl a m lim W1 hbn (by omega))
  unfold NewI at HI
  clear ho hbn hb HD HA'
  by_cases hok : grOk bl a m lim = true
  · have hok2 : listB bl = true ∧ grR a m lim = true := by unfold grOk at hok; rwa [Bool.and_eq_true] at hok
    obtain ⟨h1, h2⟩ := hok2
    obtain ⟨z1, z2⟩ := gr_ok h1 h2
    rw [z1, z2] at HI
    have h3 : (0 ≤ a ∧ a ≤ 1000000) ∧ (0 ≤ m ∧ m ≤ 100000) ∧ (0 ≤ lim ∧ lim ≤ 1000000) := by
      unfold grR at h2
      rw [Bool.and_eq_true, Bool.and_eq_true, inB_iff, inB_iff, inB_iff] at h2
      exact h2
    obtain ⟨f, hf⟩ : ∃ f, f = fW bl a m := ⟨_, rfl⟩
    have HC : Hid (∀ W' i, i < bl.length → Calls Tryz.prog 11 #[.agg #[.string (bAt bl i).s, .int .i64 (bAt bl i).r, .int .i64 (bAt bl i).l, .int .i64 (bAt bl i).c], .int .i64 a, .int .i64 m] W' fun e w' => e = .returned (.tuple #[.int .i64 (f i), .int .i64 0]) ∧ Below W'.heap.size W' w') := fun W' i hi => by
      have h4 := specRailWear_any (bAt bl i).s (bAt bl i).r (bAt bl i).l (bAt bl i).c a m (HN.out.2.1 i hi) W'
      have h5 : bendB (bAt bl i).s (bAt bl i).r (bAt bl i).l (bAt bl i).c = true := listB_at h1 i hi
      have h6 : (inB a 0 1000000 && inB m 0 100000) = true := by rw [inB_iff.2 h3.1, inB_iff.2 h3.2.1]; rfl
      rw [h5, h6] at h4
      have h7 : f i = wearI (bAt bl i).r a m := by rw [hf]; unfold fW; rfl
      rw [h7]
      exact h4
    rw [← hf] at HI
    have h12 := listB_len h1
    have HLE : Hid ((grTo f lim bl.length).length ≤ 12) := by
      have := grTo_len f lim bl.length
      exact (show _ ≤ 12 by omega)
    have HAT : Hid (∀ i, i < (grTo f lim bl.length).length → oAt (grTo f lim bl.length) i < bl.length) := fun i hi => (order_at hi).1
    have HNX : Hid (∀ i, i + 1 < (grTo f lim bl.length).length → f (oAt (grTo f lim bl.length) (i + 1)) ≤ f (oAt (grTo f lim bl.length) i)) := fun i hi => grTo_next hi
    have HNA : Hid (∀ i, i < (grTo f lim bl.length).length → hasTo ((toI (grTo f lim bl.length)).take i) ((oAt (grTo f lim bl.length) i : Nat) : Int) i = false) := fun i hi => not_ahead hi
    have HHO : Hid (∀ i, i < bl.length → hasTo (toI (grTo f lim bl.length)) (i : Int) (grTo f lim bl.length).length = decide (lim < f i)) := fun i hi => has_order hi
    have HFZ : Hid (∀ i, i < bl.length → 0 ≤ f i) := fun i hi => by rw [hf]; exact fW_bd h1 h3.1 h3.2.1 i hi
    generalize grTo f lim bl.length = L at *
    obtain ⟨q, hq⟩ : ∃ q, q = L.length := ⟨_, rfl⟩
    rw [← hq] at HLE HAT HNX HNA HHO
    have HQ := Lib.hid hq
    clear hf z1 z2 h1 h2 h3 hok hq
    go_wp2_with fail
    refine HI.out.mono ?_
    rintro e W2 ⟨v4, rfl, ho4, hb4⟩
    have HB2 := Lib.hid (HB1.out.trans (hb4.mono HB1.out.size))
    have HN2 := Lib.hid (HN.out.below hb4 hb4.size)
    obtain ⟨A4, c4, rfl, hin4, hcap⟩ := order_form ho4 HQ.out (fun j hj => by have := HAT.out j hj; omega)
    have HO4 := Lib.hid hin4
    have HCP := Lib.hid hcap
    clear ho4 hb4 hin4 hcap HI
    go_upto_region 31 with fail
    rename_i K8 hK8 Kc hKc
    have HK := Lib.hid hK8
    clear hK8
    go_wp2_with fail
    go_loopw [20, 21] (fun s i wr => ∃ (k : Nat) (z : Int), k ≤ q ∧ i = .int .i64 k ∧ s = .int .i64 z ∧ Hid (k < q → 0 ≤ z → f (oAt L k) ≤ z) ∧ Hid (Below W2.heap.size W2 wr) ∧ Hid (Below w.heap.size w wr)) (fun _ i _ => q - (intOf i).toNat)
    case atStart => exact ⟨0, -1, Nat.zero_le _, rfl, rfl, fun _ h => by omega, Below.refl _ _, HB2⟩
    case round =>
      obtain ⟨k, z, hk, rfl, rfl, HZ, HW, HBr⟩ := hrel
      by_cases hlt : k < q
      · obtain ⟨g4, rfl, hcap, hg4, hc4⟩ := HCP.out (by omega)
        have q4 := (HW.out.cell (p := ⟨g4, k, none⟩) hg4).trans (hc4 k hlt)
        have HH : Hid (∀ mm, Calls Tryz.prog 10 #[.slice (some ⟨g4, 0, none⟩) k c4, .int .i64 ((oAt L k : Nat) : Int)] (wr.drewN mm) fun e w' => e = .returned (.bool false) ∧ w' = wr.drewN mm) := fun mm => by
          have h1 := b10Has_any (some ⟨g4, 0, none⟩) k c4 ((toI L).take k) ((oAt L k : Nat) : Int) (wr.drewN mm) (ints_drewN (ints_take (HO4.out.below HW.out HW.out.size) (by omega)) mm) (by have := HLE.out; omega)
          have h2 : ((toI L).take k).length = k := by rw [List.length_take, toI_len, ← HQ.out]; omega
          rw [h2, HNA.out k hlt] at h1
          exact h1
        have hx := HAT.out k hlt
        have HNk := Lib.hid (fun h => HNX.out k h)
        have HZk := Lib.hid (HZ.out hlt)
        have HFk := HFZ.out _ hx
        obtain ⟨-, -, hcell⟩ := HN2.out.below HW.out HW.out.size
        obtain ⟨g, off, rfl, hg, hc⟩ := hcell (by omega)
        obtain ⟨q0, q1, q2, q3⟩ := hc _ hx
        have HWX := Lib.hid (fun W' => HC.out W' _ hx)
        clear hc hcell hc4
        generalize oAt L k = X at *
        generalize f X = F at *
        generalize (bAt bl X).s = xs at *
        generalize (bAt bl X).r = xr at *
        generalize (bAt bl X).l = xl at *
        generalize (bAt bl X).c = xc at *
        have hq12 := HLE.out
        have hx0 : ¬ (X : Int) < 0 := by omega
        have hx1 : ¬ (bl.length : Int) ≤ (X : Int) := by omega
        have hx2 : decide ((X : Int) < 0) = false := decide_eq_false hx0
        have hx3 : decide (bl.length ≤ X) = false := decide_eq_false (by omega)
        have hx4 : decide ((bl.length : Int) ≤ (X : Int)) = false := decide_eq_false hx1
        have hkc : k ≤ c4 := by omega
        have hkc2 : (k : Int) ≤ (c4 : Int) := by omega
        go_wp2_with fail
        go_quiet ((go_at_call 10; exact Calls.quiet_of_same (HH.out _)))
        go_wp2_with fail
        refine (HWX.out _).mono ?_
        rintro e W5 ⟨rfl, hb5⟩
        have hb6 : Below wr.heap.size wr W5 := Below.trans (show Below wr.heap.size wr (wr.drewN _) from ⟨rfl, rfl, rfl, Nat.le_refl _, fun _ _ => rfl⟩) hb5
        have HWn := Lib.hid (HW.out.trans (hb6.mono HW.out.size))
        have HBn := Lib.hid (HBr.out.trans (hb6.mono HBr.out.size))
        clear hb5 hb6
        by_cases hz : 0 ≤ z
        · have hz2 : ¬ z < F := by have := HZk.out hz; omega
          have hz3 : decide (z < F) = false := decide_eq_false hz2
          have hz4 : decide (0 ≤ z) = true := decide_eq_true hz
          go_wp2_with fail
          go_roundw
          case rel => exact ⟨k + 1, F, by omega, by go_num, rfl, fun h _ => HNk.out h, HWn, HBn⟩
          case measure => simp [intOf]; omega
        · have hz4 : decide (0 ≤ z) = false := decide_eq_false hz
          go_wp2_with fail
          go_roundw
          case rel => exact ⟨k + 1, F, by omega, by go_num, rfl, fun h _ => HNk.out h, HWn, HBn⟩
          case measure => simp [intOf]; omega
      · have hq12 := HLE.out
        go_wp2_with fail
        clear HZ hk
        go_loopw [24] (fun i w3 => ∃ j : Nat, j ≤ bl.length ∧ i = .int .i64 j ∧ Hid (Below W2.heap.size W2 w3) ∧ Hid (Below w.heap.size w w3)) (fun i _ => bl.length - (intOf i).toNat)
        case atStart => exact ⟨0, Nat.zero_le _, rfl, HW, HBr⟩
        case round =>
          obtain ⟨j, hj, rfl, HW3, HB3⟩ := hrel
          by_cases hjl : j < bl.length
          · obtain ⟨-, -, hcell⟩ := HN2.out.below HW3.out HW3.out.size
            obtain ⟨g, off, rfl, hg, hc⟩ := hcell (by omega)
            obtain ⟨q0, q1, q2, q3⟩ := hc _ hjl
            have HCj := Lib.hid (fun W' => HC.out W' j hjl)
            have HHj : Hid (∀ W, Below W2.heap.size W2 W → Calls Tryz.prog 10 #[.slice A4 q c4, .int .i64 (j : Int)] W fun e w' => e = .returned (.bool (decide (lim < f j))) ∧ w' = W) := fun W hW => by
              have h1 := b10Has_any A4 q c4 (toI L) (j : Int) W (HO4.out.below hW hW.size) (by omega)
              rw [toI_len, ← HQ.out, HHO.out j hjl] at h1
              exact h1
            clear hc hcell
            generalize f j = F at *
            generalize (bAt bl j).s = xs at *
            generalize (bAt bl j).r = xr at *
            generalize (bAt bl j).l = xl at *
            generalize (bAt bl j).c = xc at *
            by_cases hF : lim < F
            · have hF2 : decide (lim < F) = true := decide_eq_true hF
              rw [hF2] at HHj
              go_wp2_with fail
              refine (HCj.out _).mono ?_
              rintro e W5 ⟨rfl, hb5⟩
              have HWn := Lib.hid (HW3.out.trans (hb5.mono HW3.out.size))
              have HBn := Lib.hid (HB3.out.trans (hb5.mono HB3.out.size))
              clear hb5
              go_wp2_with fail
              refine (HHj.out _ HWn.out).mono ?_
              rintro e W6 ⟨rfl, rfl⟩
              go_wp2_with fail
              go_roundw
              case rel => exact ⟨j + 1, by omega, by go_num, HWn, HBn⟩
              case measure => simp [intOf]; omega
            · have hF2 : decide (lim < F) = false := decide_eq_false hF
              rw [hF2] at HHj
              go_wp2_with fail
              refine (HCj.out _).mono ?_
              rintro e W5 ⟨rfl, hb5⟩
              have HWn := Lib.hid (HW3.out.trans (hb5.mono HW3.out.size))
              have HBn := Lib.hid (HB3.out.trans (hb5.mono HB3.out.size))
              clear hb5
              go_wp2_with fail
              refine (HHj.out _ HWn.out).mono ?_
              rintro e W6 ⟨rfl, rfl⟩
              go_wp2_with fail
              go_roundw
              case rel => exact ⟨j + 1, by omega, by go_num, HWn, HBn⟩
              case measure => simp [intOf]; omega
          · go_wp2_with fail
            refine HK.out _ _ ?_
            exact HR8.out _ _ _ _ _ _ _ _ _ _ _ _ _ _ _ _ _ _ _ _ _ _ _ _ _ _ _ _ _ _ _ _ _ _ _ _ _ _ _ _ _ _ _ _ _ _ _ _ _ _ _ _ _ _ _ _ _ _ _ _ _ _ _ _ _ _ _ _ _ _ _ _ _ _ _ _ _ _ _ _ _ _ _ _ _ _ _ _ _ _ _ _ _ _ _ _ _ _ _ _ _ _ _ _ _ _ _ _ _ _ _ _ _ _ _ _ _ _ _ _ _ _ _ _ _ _ _ _ _ _ _ _ _ _ _ _ _ _ _ _ _ _ _ _ _ _ _ _ _ _ _ _ _ _ _ _ _ _ _ _ _ _ _ _ _ _ _ _ _ _ _ _ _ _ _ _ _ _ _ _ _ _ _ _ _ _ _ _ _ _ _ _ _ _ _ _ _ _ _ _ _ _ _ _ _ _ _ _ _ _ _ _ _ _ _ _ _ _ _ _ _ _ _ _ _ _ _ _ _ _ _ _ _ _ _ _ _ _ _ _ _ _ _ _ _ _ _ _ _ _ _ _ _ _ _ _ _ _ _ _ _ _ _ _ HB3
  · have hz : grL bl a m lim = [] ∧ grC bl a m lim ≠ 0 := by
      unfold grL grC
      rw [if_neg hok]
      refine ⟨rfl, ?_⟩
      unfold grOk at hok
      cases h1 : listB bl
      · simp
      · cases h2 : grR a m lim
        · simp
        · rw [h1, h2] at hok; exact absurd rfl hok
    obtain ⟨z1, z2⟩ := hz
    have hne : (grC bl a m lim == 0) = false := by rw [beq_eq_false_iff_ne]; exact z2
    rw [z1] at HI
    clear z1 z2 hok
    generalize grC bl a m lim = C at *
    go_wp2_with fail
    refine HI.out.mono ?_
    rintro e W2 ⟨v4, rfl, ho4, hb4⟩
    have HB2 := Lib.hid (HB1.out.trans (hb4.mono HB1.out.size))
    obtain ⟨A4, c4, rfl, -, -⟩ := order_form (L := []) ho4 rfl (fun j hj => by simp at hj)
    clear ho4 hb4 HI
    go_upto_region 29 with fail
    rename_i K8 hK8 Kc hKc
    have HK := Lib.hid hK8
    clear hK8
    go_wp2_with fail
    refine HK.out _ _ ?_
    exact HR8.out _ _ _ _ _ _ _ _ _ _ _ _ _ _ _ _ _ _ _ _ _ _ _ _ _ _ _ _ _ _ _ _ _ _ _ _ _ _ _ _ _ _ _ _ _ _ _ _ _ _ _ _ _ _ _ _ _ _ _ _ _ _ _ _ _ _ _ _ _ _ _ _ _ _ _ _ _ _ _ _ _ _ _ _ _ _ _ _ _ _ _ _ _ _ _ _ _ _ _ _ _ _ _ _ _ _ _ _ _ _ _ _ _ _ _ _ _ _ _ _ _ _ _ _ _ _ _ _ _ _ _ _ _ _ _ _ _ _ _ _ _ _ _ _ _ _ _ _ _ _ _ _ _ _ _ _ _ _ _ _ _ _ _ _ _ _ _ _ _ _ _ _ _ _ _ _ _ _ _ _ _ _ _ _ _ _ _ _ _ _ _ _ _ _ _ _ _ _ _ _ _ _ _ _ _ _ _ _ _ _ _ _ _ _ _ _ _ _ _ _ _ _ _ _ _ _ _ _ _ _ _ _ _ _ _ _ _ _ _ _ _ _ _ _ _ _ _ _ _ _ _ _ _ _ _ _ _ _ _ _ _ _ _ _ HB2
end Go.Proofs.YtlknncmnphbpkaaGreatDoor.GrdB
