/- The law of words of a line. -/
import Derived.Test.YtgjbpjpcihifnaaDoorTxtV
namespace Go.Proofs.YtgjbpjpcihifnaaDoor.TxtW
open Go.RowKit Go.Proofs.YtgjbpjpcihifnaaDoor.Plain Go.Proofs.YtgjbpjpcihifnaaDoor.TxtA Go.Proofs.YtgjbpjpcihifnaaDoor.TxtB Go.Proofs.YtgjbpjpcihifnaaDoor.TxtC Go.Proofs.YtgjbpjpcihifnaaDoor.TxtH Go.Proofs.YtgjbpjpcihifnaaDoor.TxtS Go.Proofs.YtgjbpjpcihifnaaDoor.TxtT Go.Proofs.YtgjbpjpcihifnaaDoor.TxtU Go.Proofs.YtgjbpjpcihifnaaDoor.TxtV Go.Proofs.YtgjbpjpcihifnaaDoor.WalkA Go.Proofs.YtgjbpjpcihifnaaDoor.WalkC

theorem words_le (s : ByteArray) (hs : s.size ≤ 1048576) : (words s).length ≤ 2097152 := by
  have a := full_le (spl s 32)
  have b := spl_le s 32
  unfold words
  omega
theorem drewB (w : World) (m : Nat) : Below w.heap.size w (w.drewN m) := ⟨rfl, rfl, rfl, Nat.le_refl _, fun _ _ => rfl⟩
/-- What lies below H stays under what is done from H on. -/
theorem OwnS.past {W W' : World} {B H : Nat} {v : Value} {l : List ByteArray} (h : OwnS W B v l) (hv : ∀ k, v.ownBlock = some k → k < H) (hb : Below H W W') : OwnS W' B v l := by
  obtain ⟨h1, h2⟩ := h
  refine ⟨h1, ?_⟩
  rcases h2 with h2 | ⟨g, cap, cur, rfl, hB, hg, h3⟩
  · exact .inl h2
  · exact .inr ⟨g, cap, cur, rfl, hB, (hb.block g (hv g rfl)).trans hg, h3⟩
set_option maxHeartbeats 1000000 in
theorem splitWords_law (s : ByteArray) (_ : s.size ≤ maxLen) (w : World) (hsh : Shp w) :
    Calls Tryd.prog 4 #[.string s] w fun e w' => e = .returned (.bool true) ∧ Below w.heap.size w w' := by
  by_cases h : (s.size : Int) ≤ 1048576
  · have hs : s.size ≤ 1048576 := by omega
    have HS := Lib.hid (fun W => specSplitWords_any s hs W)
    have HI := Lib.hid (fun W (hb : Below w.heap.size w W) => implSplitWords_any s hs W (hsh.below hb))
    have hlw := words_le s hs
    clear hs hsh
    generalize words s = L at *
    have HE := Lib.hid (fun W A1 c1 A2 c2 (h1 : Strs W A1 L.length L) (h2 : Strs W A2 L.length L) => eqStrings_any A1 A2 L.length c1 c2 L W h1 h2 hlw)
    have HM := Lib.hid (fun W A c B (ho : OwnS W B (.slice A L.length c) L) (hB : B ≤ W.heap.size) => markS_any A L.length c B L W ho rfl hlw hB)
    have HH := Lib.hid (fun W A c B (ho : OwnS W B (.slice A L.length c) (mkd L.length L)) => heldS_any A L.length c B L W ho rfl hlw)
    go_enter Tryd.func4, Tryd.ntmps4
    go_wp2_with fail
    refine (HS.out _).mono ?_
    rintro e w1 ⟨v1, rfl, ho1, hb1⟩
    obtain ⟨A1, c1, rfl⟩ := OwnS.shape ho1
    have HV1 := Lib.hid (fun k hk => (World.ownsRow.lt ho1 k hk).2)
    go_wp2_with fail
    refine (HI.out _ hb1).mono ?_
    rintro e w2 ⟨v2, rfl, ho2, hb2⟩
    obtain ⟨A2, c2, rfl⟩ := OwnS.shape ho2
    have ho1 := ho1.below hb2
    have b2 := hb1.trans (hb2.mono hb1.size)
    have h12 := hb2.size
    have h01 := hb1.size
    go_wp2_with fail
    refine (HE.out _ _ _ _ _ (OwnS.strs ho2 rfl) (OwnS.strs ho1 rfl)).mono ?_
    rintro e w3 ⟨rfl, m3, rfl⟩
    have hb3 := drewB w2 m3
    have ho1 := ho1.below hb3
    have ho2 := ho2.below hb3
    have b3 := b2.trans (hb3.mono b2.size)
    have h23 := hb3.size
    clear hb3 hb2 hb1 b2
    generalize w2.drewN m3 = w3 at *
    go_wp2_with fail
    refine (HM.out _ _ _ _ ho2 (by omega)).mono ?_
    rintro e w4 ⟨rfl, ho2, hb4⟩
    have ho1 := OwnS.past ho1 (fun k hk => HV1.out k hk) hb4
    have b4 : Below w.heap.size w w4 := b3.trans (hb4.mono h01)
    go_wp2_with fail
    refine (HH.out _ _ _ _ ho2).mono ?_
    rintro e w5 ⟨rfl, hb5⟩
    have ho1 := ho1.below hb5
    have ho2 := ho2.below hb5
    have b5 := b4.trans (hb5.mono b4.size)
    clear hb5 b4 b3 hb4
    go_wp2_with fail
    refine (HI.out _ b5).mono ?_
    rintro e w6 ⟨v6, rfl, ho6, hb6⟩
    obtain ⟨A6, c6, rfl⟩ := OwnS.shape ho6
    have ho1 := ho1.below hb6
    have ho2 := ho2.below hb6
    have b6 := b5.trans (hb6.mono b5.size)
    clear hb6 b5
    go_wp2_with fail
    refine (HE.out _ _ _ _ _ (OwnS.strs ho6 rfl) (OwnS.strs ho1 rfl)).mono ?_
    rintro e w7 ⟨rfl, m7, rfl⟩
    have hb7 := drewB w6 m7
    have ho2 := ho2.below hb7
    have b7 := b6.trans (hb7.mono b6.size)
    clear hb7 b6 ho6 ho1
    go_wp2_with fail
    refine (HH.out _ _ _ _ ho2).mono ?_
    rintro e w8 ⟨rfl, hb8⟩
    have b8 := b7.trans (hb8.mono b7.size)
    go_wp2_with fail
    go_ret
    exact ⟨rfl, b8⟩
  · clear hsh
    have b : Below w.heap.size w w := Below.refl _ _
    go_enter Tryd.func4, Tryd.ntmps4
    go_wp2_with fail
    go_ret
    exact ⟨rfl, b⟩
end Go.Proofs.YtgjbpjpcihifnaaDoor.TxtW
