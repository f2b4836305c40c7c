/- The law of lists read from texts. -/
import Derived.Test.YtdadldfplooooaaDoorTxtY
namespace Go.Proofs.YtdadldfplooooaaDoor.TxtZ
open Go.RowKit Go.Proofs.YtdadldfplooooaaDoor.Plain Go.Proofs.YtdadldfplooooaaDoor.TxtA Go.Proofs.YtdadldfplooooaaDoor.TxtB Go.Proofs.YtdadldfplooooaaDoor.TxtC Go.Proofs.YtdadldfplooooaaDoor.TxtG Go.Proofs.YtdadldfplooooaaDoor.TxtH Go.Proofs.YtdadldfplooooaaDoor.TxtP Go.Proofs.YtdadldfplooooaaDoor.TxtQ Go.Proofs.YtdadldfplooooaaDoor.TxtR Go.Proofs.YtdadldfplooooaaDoor.TxtS Go.Proofs.YtdadldfplooooaaDoor.TxtT Go.Proofs.YtdadldfplooooaaDoor.TxtY Go.Proofs.YtdadldfplooooaaDoor.WalkA Go.Proofs.YtdadldfplooooaaDoor.WalkC

theorem rdL_in (s : ByteArray) : In64 (rdL s) := by
  cases h : rdB s
  · rw [TxtY.rdL_no h]; intro i hi; simp at hi
  · rw [TxtY.rdL_yes h]; exact in64_nums _
theorem rdL_le (s : ByteArray) : (rdL s).length ≤ 64 := by
  cases h : rdB s
  · rw [TxtY.rdL_no h]; simp
  · rw [TxtY.rdL_yes h, nums_len]
    unfold rdB at h
    rw [Bool.and_eq_true, decide_eq_true_eq] at h
    exact h.1
theorem drewB (w : World) (m : Nat) : Below w.heap.size w (w.drewN m) := ⟨rfl, rfl, rfl, Nat.le_refl _, fun _ _ => rfl⟩
set_option maxRecDepth 100000 in
set_option maxHeartbeats 1000000 in
theorem readList_law (s : ByteArray) (_ : s.size ≤ maxLen) (w : World) (hsh : Shp w) (hE : Env w) :
    Calls Tryd.prog 6 #[.string s] w fun e w' => e = .returned (.bool true) ∧ Below w.heap.size w w' := by
  by_cases h : (s.size : Int) ≤ 1048576
  · have hs : s.size ≤ 1048576 := by omega
    have HS := Lib.hid (fun W => specReadList_any s hs W)
    have HI := Lib.hid (fun W (hb : Below w.heap.size w W) => implReadList_any s hs W (hsh.below hb) (hE.below hb))
    unfold RL at HS HI
    have hlw := rdL_le s
    have HIN := Lib.hid (rdL_in s)
    clear hs hsh hE
    generalize rdL s = L at *
    generalize rlB s = cc at *
    have HE := Lib.hid (fun W A1 c1 A2 c2 (h1 : Ints W W.heap.size A1 L.length L) (h2 : Ints W W.heap.size A2 L.length L) => eqInts_any A1 A2 L.length c1 c2 L W h1 h2 (by omega))
    have HM := Lib.hid (fun W A c B (ho : OwnI W B (.slice A L.length c) L) => markI_any A L.length c B L W ho rfl (by omega))
    have HH := Lib.hid (fun W A c B (ho : OwnI W B (.slice A L.length c) (mkI L.length L)) => heldI_any A L.length c B L W ho rfl (by omega))
    cases cc
    all_goals
      go_enter Tryd.func6, Tryd.ntmps6
      go_wp2_with fail
      refine (HS.out _).mono ?_
      rintro e w1 ⟨v1, rfl, ho1, hb1⟩
      obtain ⟨A1, c1, rfl⟩ := OwnI.shape ho1
      have HV1 := Lib.hid (fun k hk => (World.ownsRow.lt ho1 k hk).2)
      go_wp2_with fail
      refine (HI.out _ hb1).mono ?_
      rintro e w2 ⟨v2, rfl, ho2, hb2⟩
      obtain ⟨A2, c2, rfl⟩ := OwnI.shape ho2
      have ho1 := ho1.below hb2
      have b2 := hb1.trans (hb2.mono hb1.size)
      have h12 := hb2.size
      have h01 := hb1.size
      go_wp2_with fail
      refine (HE.out _ _ _ _ _ (ho2.ints rfl HIN.out) (ho1.ints rfl HIN.out)).mono ?_
      rintro e w3 ⟨rfl, m3, rfl⟩
      have hb3 := drewB w2 m3
      have ho1 := ho1.below hb3
      have ho2 := ho2.below hb3
      have b3 := b2.trans (hb3.mono b2.size)
      have h23 := hb3.size
      clear hb3 hb2 hb1 b2
      generalize w2.drewN m3 = w3 at *
      go_wp2_with fail
      refine (HM.out _ _ _ _ ho2).mono ?_
      rintro e w4 ⟨rfl, ho2, hb4⟩
      have ho1 := OwnI.past ho1 (fun k hk => HV1.out k hk) hb4
      have b4 : Below w.heap.size w w4 := b3.trans (hb4.mono h01)
      go_wp2_with fail
      refine (HH.out _ _ _ _ ho2).mono ?_
      rintro e w5 ⟨rfl, hb5⟩
      have ho1 := ho1.below hb5
      have ho2 := ho2.below hb5
      have b5 := b4.trans (hb5.mono b4.size)
      clear hb5 b4 b3 hb4
      go_wp2_with fail
      refine (HI.out _ b5).mono ?_
      rintro e w6 ⟨v6, rfl, ho6, hb6⟩
      obtain ⟨A6, c6, rfl⟩ := OwnI.shape ho6
      have ho1 := ho1.below hb6
      have ho2 := ho2.below hb6
      have b6 := b5.trans (hb6.mono b5.size)
      clear hb6 b5
      go_wp2_with fail
      refine (HE.out _ _ _ _ _ (ho6.ints rfl HIN.out) (ho1.ints rfl HIN.out)).mono ?_
      rintro e w7 ⟨rfl, m7, rfl⟩
      have hb7 := drewB w6 m7
      have ho2 := ho2.below hb7
      have b7 := b6.trans (hb7.mono b6.size)
      clear hb7 b6 ho6 ho1
      go_wp2_with fail
      refine (HH.out _ _ _ _ ho2).mono ?_
      rintro e w8 ⟨rfl, hb8⟩
      have b8 := b7.trans (hb8.mono b7.size)
      go_wp2_with fail
      go_ret
      exact ⟨rfl, b8⟩
  · clear hsh hE
    have b : Below w.heap.size w w := Below.refl _ _
    go_enter Tryd.func6, Tryd.ntmps6
    go_wp2_with fail
    go_ret
    exact ⟨rfl, b⟩
end Go.Proofs.YtdadldfplooooaaDoor.TxtZ
