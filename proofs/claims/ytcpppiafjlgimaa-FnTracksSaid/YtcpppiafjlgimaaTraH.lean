/- The walk of the law on tracks. -/
import Derived.Test.YtcpppiafjlgimaaTraZ
import Derived.Test.YtcpppiafjlgimaaTraY
import Derived.Test.YtcpppiafjlgimaaTraX
import Derived.Test.YtcpppiafjlgimaaTraV
import Derived.Test.YtcpppiafjlgimaaTraW
import Derived.Test.YtcpppiafjlgimaaTraU
import Derived.Test.YtcpppiafjlgimaaTraT
import Derived.Test.YtcpppiafjlgimaaTraA
import Derived.Test.YtcpppiafjlgimaaTraP
import Derived.Test.YtcpppiafjlgimaaTrkY
import Derived.Test.YtcpppiafjlgimaaTrkO
import Derived.Test.YtcpppiafjlgimaaTrkI
import Derived.Test.YtcpppiafjlgimaaTrkG
import Derived.Deep.DeepCutAuto
namespace Go.Proofs.Ytcpppiafjlgimaa.TraH
set_option maxRecDepth 100000
open Go.Proofs.Ytcpppiafjlgimaa.TraZ Go.Proofs.Ytcpppiafjlgimaa.TraY Go.Proofs.Ytcpppiafjlgimaa.TraX Go.Proofs.Ytcpppiafjlgimaa.TraW Go.Proofs.Ytcpppiafjlgimaa.TraV Go.Proofs.Ytcpppiafjlgimaa.TraU Go.Proofs.Ytcpppiafjlgimaa.TraT Go.Proofs.Ytcpppiafjlgimaa.TraA Go.RowKit Go.Proofs.Ytcpppiafjlgimaa.Plain Go.Proofs.Ytcpppiafjlgimaa.TrkP Go.Proofs.Ytcpppiafjlgimaa.WalkA Go.Proofs.Ytcpppiafjlgimaa.TrkA Go.Proofs.Ytcpppiafjlgimaa.TrkC Go.Proofs.Ytcpppiafjlgimaa.TrkD Go.Proofs.Ytcpppiafjlgimaa.TrkE Go.Proofs.Ytcpppiafjlgimaa.TrkF Go.Proofs.Ytcpppiafjlgimaa.TrkG Go.Proofs.Ytcpppiafjlgimaa.TrkH Go.Proofs.Ytcpppiafjlgimaa.TrkI Go.Proofs.Ytcpppiafjlgimaa.TrkJ Go.Proofs.Ytcpppiafjlgimaa.TrkO Go.Proofs.Ytcpppiafjlgimaa.TrkS Go.Proofs.Ytcpppiafjlgimaa.TrkT Go.Proofs.Ytcpppiafjlgimaa.TrkV Go.Proofs.Ytcpppiafjlgimaa.TrkY0 Go.Proofs.Ytcpppiafjlgimaa.TrkY Go.Proofs.Ytcpppiafjlgimaa.SrcT Go.Proofs.Ytcpppiafjlgimaa.TraP
open Go.Proofs.Ytcpppiafjlgimaa.SrcA (Bys Some64 r8Long_any r8At_any r8Wide_any)





theorem Cel.all3 {W : World} {b : Nat} {v : Value} {lf lu : Int} (h : Cel W b v lf lu) : W.cell? ⟨b, 0, none⟩ = some v ∧ W.cell? ⟨b, 1, none⟩ = some (.int .i64 lf) ∧ W.cell? ⟨b, 2, none⟩ = some (.int .i64 lu) := ⟨h.c0, h.c1, h.c2⟩



set_option maxRecDepth 1000000 in
set_option maxHeartbeats 8000000 in
theorem fnTracks (A A' : Option Addr) (n n' c c' : Nat) (w : World) (hA : Bys w w.heap.size A n) (hA' : Bys w w.heap.size A' n') (hn : n ≤ 9223372036854775807) (hn' : n' ≤ 9223372036854775807) :
    Calls Try.prog 3 #[.slice A n c, .slice A' n' c'] w fun e w' => e = .returned (.bool true) ∧ Below w.heap.size w w' := by
  have HL := Lib.hid (r8Long_any A A' n n' c c' hn hn' w)
  by_cases hlong : (decide (1048576 < n) || decide (1048576 < n')) = true
  · rw [hlong] at HL
    clear hlong
    go_enter Try.func3, Try.ntmps3
    go_wp2_with fail
    refine HL.out.mono ?_
    rintro e w1 ⟨rfl, rfl⟩
    go_wp2_with fail
    go_ret
    exact ⟨rfl, Below.refl _ _⟩
  have hl2 := Bool.eq_false_iff.2 hlong
  rw [hl2] at HL
  rw [Bool.or_eq_false_iff, decide_eq_false_iff_not, decide_eq_false_iff_not] at hl2
  have hn1 : n ≤ 1048576 := by omega
  have hn2 : n' ≤ 1048576 := by omega
  clear hlong hl2
  have HT := Lib.hid (r8Track_any A n c w hA hn1)
  have HA' := Lib.hid hA'
  clear hA hA'
  go_enter Try.func3, Try.ntmps3
  go_wp2_with fail
  refine HL.out.mono ?_
  rintro e w1 ⟨rfl, rfl⟩
  go_wp2_with fail
  refine HT.out.mono ?_
  rintro e w1 ⟨g, cp, l, lf, lu, rfl, hg1, hg2, hsec, hdr, hb1⟩
  have HH0 := Lib.hid (Hold.new (cp := cp) (lf := lf) (lu := lu) hsec (HA'.out.below hb1 hb1.size))
  have HB0 : Hid (Below w.heap.size w (w1.alloc (.cells #[.slice (some ⟨g, 0, none⟩) l.length cp, .int .i64 lf, .int .i64 lu] 26))) := hb1.trans ((Below.alloc (Below.refl _ _) (Nat.le_refl _) _ : Below w1.heap.size w1 _).mono hb1.size)
  obtain ⟨N, hN⟩ : ∃ N, N = lenAll l := ⟨_, rfl⟩
  have HD := Lib.hid hdr
  have HN := Lib.hid hN
  clear hN
  clear hsec hb1 hg1 hg2
  have hcent : centB l lf lu = true := by
    obtain ⟨hh, hh1, hh2, hh3⟩ := hdr.from_
    have hh4 := hdr.until_
    exact cent_c (by omega) (by omega)
  have HCT := Lib.hid hcent
  clear hcent hdr
  go_wp2_with fail
  generalize w1.alloc (.cells #[.slice (some ⟨g, 0, none⟩) l.length cp, .int .i64 lf, .int .i64 lu] 26) = W0 at *
  generalize w1.heap.size = b at *
  have hN := HN.out
  have hlen := HD.out.len
  have hval := HD.out.valid
  have h5 := HD.out.good.1
  have htb := trackB_iff.2 hval
  have hll2 : l.length ≤ 1048576 := by omega
  rw [← hN] at hlen
  have H1 : Hid (∀ W, Hold W b g cp l lf lu A' n' → Calls Try.prog 6 #[.agg #[.slice (some ⟨g, 0, none⟩) l.length cp, .int .i64 lf, .int .i64 lu]] W fun e w' => e = .returned (.tuple #[.int .i64 N, .int .i64 0]) ∧ Below W.heap.size W w') := fun W h => by
    have h1 := implTrackLength_any (some ⟨g, 0, none⟩) l.length cp lf lu l W h.secs hll2
    rw [htb, ← hN] at h1
    exact h1
  have H2 : Hid (∀ W, Hold W b g cp l lf lu A' n' → Calls Try.prog 7 #[.agg #[.slice (some ⟨g, 0, none⟩) l.length cp, .int .i64 lf, .int .i64 lu]] W fun e w' => e = .returned (.bool true) ∧ Below W.heap.size W w') := fun W h => by
    have h1 := implValidTrack_any (some ⟨g, 0, none⟩) l.length cp lf lu l W h.secs hll2
    rw [htb] at h1
    exact h1
  have H3 : Hid (∀ W, Hold W b g cp l lf lu A' n' → Calls Try.prog 8 #[.agg #[.slice (some ⟨g, 0, none⟩) l.length cp, .int .i64 lf, .int .i64 lu]] W fun e w' => e = .returned (.bool true) ∧ Below W.heap.size W w') := fun W h => by
    have h1 := implIsCentred_any (some ⟨g, 0, none⟩) l.length cp lf lu l W h.secs hll2
    rw [htb, HCT.out] at h1
    exact h1
  have H4 : Hid (∀ W, Hold W b g cp l lf lu A' n' → Calls Try.prog 9 #[.agg #[.slice (some ⟨g, 0, none⟩) l.length cp, .int .i64 lf, .int .i64 lu]] W fun e w' => e = .returned (.tuple #[.int .i64 N, .int .i64 0]) ∧ Below W.heap.size W w') := fun W h => by
    have h1 := specTrackLength_any (some ⟨g, 0, none⟩) l.length cp lf lu l W h.secs hll2
    rw [htb, ← hN] at h1
    exact h1
  have HW1 := Lib.hid (fun W (h : Hold W b g cp l lf lu A' n') => r8Wide_any A' n' c' 0 60000 (by omega) (by omega) W h.bys hn2)
  have HW2 := Lib.hid (fun W (h : Hold W b g cp l lf lu A' n') => r8Wide_any A' n' c' 2 60000 (by omega) (by omega) W h.bys hn2)
  have hN1 : ¬ N < 1 := by omega
  have hN2 : N + 1 ≠ 0 := by omega
  have HN2 := Lib.hid hN2
  clear hval h5 htb hll2 hN hN2 HCT
  obtain ⟨hlen1, hlen2⟩ := hlen
  obtain ⟨c0, c1, c2⟩ := (And.intro HH0.out.c0 (And.intro HH0.out.c1 HH0.out.c2))
  refine (H1.out _ HH0.out).mono ?_
  rintro e v1 ⟨rfl, hb⟩
  have HH1 := Lib.hid (HH0.out.below hb)
  have HB1 := Lib.hid (HB0.out.trans (hb.mono HB0.out.size))
  clear hb c0 c1 c2 HH0 HB0
  obtain ⟨c0, c1, c2⟩ := (And.intro HH1.out.c0 (And.intro HH1.out.c1 HH1.out.c2))
  go_wp2_with fail
  refine (H2.out _ HH1.out).mono ?_
  rintro e v2 ⟨rfl, hb⟩
  have HH2 := Lib.hid (HH1.out.below hb)
  have HB2 := Lib.hid (HB1.out.trans (hb.mono HB1.out.size))
  clear hb c0 c1 c2 HH1 HB1
  obtain ⟨c0, c1, c2⟩ := (And.intro HH2.out.c0 (And.intro HH2.out.c1 HH2.out.c2))
  go_wp2_with fail
  refine (H3.out _ HH2.out).mono ?_
  rintro e v3 ⟨rfl, hb⟩
  have HH3 := Lib.hid (HH2.out.below hb)
  have HB3 := Lib.hid (HB2.out.trans (hb.mono HB2.out.size))
  clear hb c0 c1 c2 HH2 HB2
  obtain ⟨c0, c1, c2⟩ := (And.intro HH3.out.c0 (And.intro HH3.out.c1 HH3.out.c2))
  go_wp2_with fail
  refine (H4.out _ HH3.out).mono ?_
  rintro e v4 ⟨rfl, hb⟩
  have HH4 := Lib.hid (HH3.out.below hb)
  have HB4 := Lib.hid (HB3.out.trans (hb.mono HB3.out.size))
  clear hb c0 c1 c2 HH3 HB3
  obtain ⟨c0, c1, c2⟩ := (And.intro HH4.out.c0 (And.intro HH4.out.c1 HH4.out.c2))
  go_wp2_with fail
  refine (HW1.out _ HH4.out).mono ?_
  rintro e vp ⟨p, p0, p1, rfl, rfl⟩
  go_upto_region 11 with fail
  rename_i K9 hK9
  have HK := Lib.hid hK9
  clear hK9
  go_wp2_with fail
  refine (HW2.out _ HH4.out).mono ?_
  rintro e vd ⟨d, d0, d1, rfl, rfl⟩
  go_wp2_with fail
  have a1 := Int.emod_nonneg (p * 53) (show N + 1 ≠ 0 by omega)
  have a2 := Int.emod_lt_of_pos (p * 53) (show 0 < N + 1 by omega)
  have a3 := Int.emod_nonneg (d * 53) (show N + 1 ≠ 0 by omega)
  have a4 := Int.emod_lt_of_pos (d * 53) (show 0 < N + 1 by omega)
  refine HK.out _ _ ?_
  exact tail9 _ _ _ _ _ _ _ _ _ _ _ _ _ _ _ _ _ _ _ _ _ _ _ _ _ _ _ _ _ _ _ _ _ _ _ _ _ _ _ _ _ _ _ _ _ _ _ _ _ _ _ _ _ _ _ _ _ _ _ _ _ _ _ _ _ _ _ _ _ _ _ _ _ _ _ _ _ _ _ _ _ _ _ _ _ _ _ _ _ _ _ _ _ _ _ _ _ _ _ _ _ _ _ _ _ _ _ _ _ _ _ _ _ _ _ _ _ _ _ _ _ _ _ _ _ _ _ _ _ _ _ _ _ _ _ _ _ _ _ _ _ _ _ _ _ _ _ _ _ _ _ _ _ _ _ _ _ _ _ _ _ _ _ _ _ _ _ _ _ _ _ _ _ _ _ _ _ _ _ _ _ _ _ _ _ _ _ _ _ _ _ _ _ _ _ _ _ _ _ _ _ _ _ _ _ _ _ _ _ _ _ _ _ _ _ _ _ _ _ _ _ _ _ _ _ _ _ _ _ _ _ _ _ _ _ _ _ _ _ _ _ _ _ _ _ _ _ _ _ _ _ _ _ _ _ _ _ _ _ _ _ _ _ _ _ _ _ _ _ _ _ _ _ _ _ _ _ _ _ _ _ _ _ _ _ _ _ _ _ _ _ _ _ _ _ _ _ _ _ _ _ _ _ _ _ _ _ _ _ _ _ _ _ _ _ _ _ _ _ _ _ _ _ _ _ _ _ _ _ _ _ _ _ _ _ _ _ _ _ _ _ _ _ _ _ _ _ _ _ _ _ _ _ _ _ _ _ _ _ _ _ _ _ _ _ _ _ _ _ _ _ _ _ _ _ _ _ _ _ _ _ _ _ _ _ _ _ _ _ _ _ _ _ _ A A' n n' c c' b g cp N _ _ lf lu w v4 l HD HN ⟨a1, by omega⟩ ⟨a3, by omega⟩ HB4 HH4
end Go.Proofs.Ytcpppiafjlgimaa.TraH
