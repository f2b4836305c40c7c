/- The law's walk: the order of grinding. -/
import Derived.Test.YtgojebiipcngoaaGriG
import Derived.Test.YtgojebiipcngoaaGriM
import Derived.Test.YtgojebiipcngoaaGriT
import Derived.Test.YtgojebiipcngoaaBlsC
namespace Go.Proofs.Ytgojebiipcngoaa.GriL
set_option maxRecDepth 100000
open Go.RowKit Go.Proofs.Ytgojebiipcngoaa.Plain Go.Proofs.Ytgojebiipcngoaa.WalkA Go.Proofs.Ytgojebiipcngoaa.WalkB Go.Proofs.Ytgojebiipcngoaa.WalkC Go.Proofs.Ytgojebiipcngoaa.WalkF Go.Proofs.Ytgojebiipcngoaa.WalkH Go.Proofs.Ytgojebiipcngoaa.BndA Go.Proofs.Ytgojebiipcngoaa.BLaw Go.Proofs.Ytgojebiipcngoaa.BndC Go.Proofs.Ytgojebiipcngoaa.BlsA Go.Proofs.Ytgojebiipcngoaa.BlsB Go.Proofs.Ytgojebiipcngoaa.BlsC Go.Proofs.Ytgojebiipcngoaa.BlsD Go.Proofs.Ytgojebiipcngoaa.GriI Go.Proofs.Ytgojebiipcngoaa.GriP Go.Proofs.Ytgojebiipcngoaa.GriA Go.Proofs.Ytgojebiipcngoaa.GriG Go.Proofs.Ytgojebiipcngoaa.GriM Go.Proofs.Ytgojebiipcngoaa.GriT

theorem grL_len (bl : List Bnd) (a m lim : Int) (h : bl.length ≤ 1048576) : (grL bl a m lim).length ≤ 1048576 := by
  unfold grL
  split
  · have := grTo_len (fW bl a m) lim bl.length
    rw [toI_len]; omega
  · simp
theorem grL_in (bl : List Bnd) (a m lim : Int) (h : bl.length ≤ 1048576) : In64 (grL bl a m lim) := fun i hi => by
  unfold grL at hi ⊢
  split at hi
  · rename_i hk
    rw [if_pos hk]
    rw [toI_len] at hi
    rw [toI_at hi]
    have := grTo_mem (fW bl a m) lim bl.length _ (getD_mem hi)
    omega
  · simp at hi
/-- A list of the call's own whose length is named. -/
def NewS (w : World) (nl : Nat) (l : List Int) (C : Int) (e : Ending) (w' : World) : Prop := ∃ A c, e = .returned (.tuple #[.slice A nl c, .int .i64 C]) ∧ OwnI w' w.heap.size (.slice A nl c) l ∧ Below w.heap.size w w'
theorem newS {w w' : World} {nl : Nat} {l : List Int} {C : Int} {e : Ending} (hl : l.length = nl) (h : NewI w l C e w') : NewS w nl l C e w' := by
  obtain ⟨v, rfl, ho, hb⟩ := h
  obtain ⟨A, c, rfl⟩ := OwnI.shape' hl ho
  exact ⟨A, c, rfl, ho, hb⟩
theorem OwnI.only {W W' : World} {B g : Nat} {v : Value} {l : List Int} (h : OwnI W B v l) (ho : Only g W W') (hv : ∀ k, v.ownBlock = some k → k ≠ g) : OwnI W' B v l := by
  have hlt := World.ownsRow.lt h
  obtain ⟨h1, h2⟩ := h
  refine ⟨h1, ?_⟩
  rcases h2 with h2 | ⟨k, cap, cur, rfl, hB, hg, h3⟩
  · exact .inl h2
  · exact .inr ⟨k, cap, cur, rfl, hB, (ho.2.2.2.2 k (hlt k rfl).2 (hv k rfl)).trans hg, h3⟩
theorem Only.below {g B : Nat} {W W' : World} (h : Only g W W') (hB : B ≤ g) (hB2 : B ≤ W.heap.size) : Below B W W' := ⟨h.1, h.2.1, h.2.2.1, h.2.2.2.1, fun k hk => h.2.2.2.2 k (by omega) (by omega)⟩
theorem eq_own {W : World} {B B' nl : Nat} {A A' : Option Addr} {c c' : Nat} {l : List Int} (h : OwnI W B (.slice A nl c) l) (h' : OwnI W B' (.slice A' nl c') l) (hl : l.length = nl) (hn : nl ≤ 1048576) (hz : In64 l) :
    Calls Try.prog 8 #[.slice A nl c, .slice A' nl c'] W fun e w' => e = .returned (.bool true) ∧ Below W.heap.size W w' :=
  (eqInts_any A A' nl c c' l W (h.ints hl.symm hz) (h'.ints hl.symm hz) hn).mono fun _ _ ⟨he, m, hm⟩ => ⟨he, by subst hm; exact ⟨rfl, rfl, rfl, Nat.le_refl _, fun _ _ => rfl⟩⟩
set_option maxHeartbeats 4000000 in
theorem grindFirst (A : Option Addr) (n c : Nat) (bl : List Bnd) (a : Int) (_ : (Lit.int .i64 a).wf = true) (m : Int) (_ : (Lit.int .i64 m).wf = true) (lim : Int) (_ : (Lit.int .i64 lim).wf = true) (w : World) (hs : Bnds w w.heap.size A n bl) (hn : n ≤ 9223372036854775807) :
    Calls Try.prog 3 #[.slice A n c, .int .i64 a, .int .i64 m, .int .i64 lim] w fun e w' => e = .returned (.bool true) ∧ Below w.heap.size w w' := by
  have HT := Lib.hid (fun W (hW : Below w.heap.size w W) (h : n ≤ 1048576) => toBendsR_any A n c bl W (hs.below hW hW.size) h)
  have HZ := Lib.hid (szBends_any A n c bl w hs hn)
  have hl : bl.length = n := hs.1
  have HE := Lib.hid (fun A' A'' c' c'' (W : World) (h : Bnds W W.heap.size A' bl.length bl) (h2 : Bnds W W.heap.size A'' bl.length bl) (hn : bl.length ≤ 9223372036854775807) => eqBends_any A' A'' bl.length c' c'' bl W h h2 hn)
  have HLL := Lib.hid (grL_len bl a m lim)
  have HLI := Lib.hid (grL_in bl a m lim)
  obtain ⟨nl, hnl⟩ : ∃ nl, (grL bl a m lim).length = nl := ⟨_, rfl⟩
  have HNL := Lib.hid hnl
  have HR : Hid (∀ A' c' (W : World) (_ : Bnds W W.heap.size A' bl.length bl) (_ : bl.length ≤ 1048576), Calls Try.prog 5 #[.slice A' bl.length c', .int .i64 a, .int .i64 m, .int .i64 lim] W (NewS W nl (grL bl a m lim) (grC bl a m lim))) := fun A' c' W h hn => (specGrind_any A' bl.length c' bl a m lim W h hn).mono fun _ _ h => newS hnl h
  have HI : Hid (∀ A' c' (W : World) (_ : Bnds W W.heap.size A' bl.length bl) (_ : bl.length ≤ 1048576), Calls Try.prog 7 #[.slice A' bl.length c', .int .i64 a, .int .i64 m, .int .i64 lim] W (NewS W nl (grL bl a m lim) (grC bl a m lim))) := fun A' c' W h hn => (implGrind_any A' bl.length c' bl a m lim W h (by omega)).mono fun _ _ h => newS hnl h
  clear hs hnl
  generalize grL bl a m lim = lr at *
  generalize grC bl a m lim = rc at *
  go_enter Try.func3, Try.ntmps3
  go_wp2_with fail
  refine HZ.out.mono ?_
  rintro e w1 ⟨⟨z, rfl, z1, z2, z3⟩, b1⟩
  have B1 := Lib.hid b1
  clear b1
  by_cases hneg : z < 0
  · go_wp2
    go_ret
    exact ⟨rfl, B1.out⟩
  have hle := z3 (by omega)
  have hl2 : bl.length ≤ 1048576 := by omega
  have HLE := Lib.hid (And.intro hle (And.intro hl2 hl))
  have HN := Lib.hid (HLL.out hl2)
  have HI64 := Lib.hid (HLI.out hl2)
  have hnl3 : nl ≤ 1048576 := by have h1 := HN.out; rw [HNL.out] at h1; exact h1
  have HN3 := Lib.hid hnl3
  clear hle hl2 hl hnl3 HLL HLI
  go_wp2_with fail
  refine (HT.out _ B1.out HLE.out.1).mono ?_
  rintro e w2 ⟨c2, rfl, s2, b2, g2, _⟩
  have S2 := Lib.hid s2
  have B2 := Lib.hid (B1.out.trans (b2.mono B1.out.size))
  clear s2 b2 g2
  go_wp2_with fail
  refine (HR.out _ _ _ S2.out HLE.out.2.1).mono ?_
  rintro e w3 ⟨A0, c0, rfl, o3, b3⟩
  have B3 := Lib.hid (B2.out.trans (b3.mono B2.out.size))
  have O3 := Lib.hid o3
  clear b3 o3
  go_wp2_with fail
  refine (HT.out _ B3.out HLE.out.1).mono ?_
  rintro e w4 ⟨c4, rfl, s4, b4, g4, t4, cs4, r4, q4⟩
  have S4 := Lib.hid s4
  have B4 := Lib.hid (B3.out.trans (b4.mono B3.out.size))
  have O4 := Lib.hid (O3.out.below b4)
  have G4 := Lib.hid g4
  have R4 := Lib.hid r4
  have Q4 := Lib.hid q4
  clear s4 b4 g4 r4 q4
  go_wp2_with fail
  refine (HI.out _ _ _ S4.out HLE.out.2.1).mono ?_
  rintro e w5 ⟨A1, c1, rfl, o5, b5⟩
  have S5 := Lib.hid (S4.out.below b5 b5.size)
  have B5 := Lib.hid (B4.out.trans (b5.mono B4.out.size))
  have P5 := Lib.hid (O4.out.below b5)
  have O5 := Lib.hid o5
  have R5 := Lib.hid (R4.out.below b5 G4.out)
  have N5 : Hid (w4.heap.size ≤ w5.heap.size) := b5.size
  clear b5 o5
  have HQ5 := Lib.hid (eq_own O5.out P5.out HNL.out HN3.out HI64.out)
  go_wp2_with fail
  refine HQ5.out.mono ?_
  rintro e w6 ⟨rfl, b6⟩
  have S6 := Lib.hid (S5.out.below b6 b6.size)
  have B6 := Lib.hid (B5.out.trans (b6.mono B5.out.size))
  have P6 := Lib.hid (P5.out.below b6)
  have O6 := Lib.hid (O5.out.below b6)
  have R6 := Lib.hid (R5.out.below b6 (Nat.lt_of_lt_of_le G4.out N5.out))
  have N6 : Hid (w4.heap.size ≤ w6.heap.size) := Nat.le_trans N5.out b6.size
  clear b6
  go_wp2_with fail
  refine (HT.out _ B6.out HLE.out.1).mono ?_
  rintro e w7 ⟨c7, rfl, s7, b7, g7, _⟩
  have S7 := Lib.hid s7
  have T7 := Lib.hid (S6.out.below b7 b7.size)
  have B7 := Lib.hid (B6.out.trans (b7.mono B6.out.size))
  have P7 := Lib.hid (P6.out.below b7)
  have O7 := Lib.hid (O6.out.below b7)
  have R7 := Lib.hid (R6.out.below b7 (Nat.lt_of_lt_of_le G4.out N6.out))
  have N7 : Hid (w4.heap.size ≤ w7.heap.size) := Nat.le_trans N6.out b7.size
  clear s7 b7 g7
  go_wp2_with fail
  refine (HE.out _ _ _ _ _ T7.out S7.out (by have := HLE.out.2.1; omega)).mono ?_
  rintro e w8 ⟨rfl, b8⟩
  have B8 := Lib.hid (B7.out.trans (b8.mono B7.out.size))
  have P8 := Lib.hid (P7.out.below b8)
  have O8 := Lib.hid (O7.out.below b8)
  have R8 := Lib.hid (R7.out.below b8 (Nat.lt_of_lt_of_le G4.out N7.out))
  have N8 : Hid (w4.heap.size ≤ w8.heap.size) := Nat.le_trans N7.out b8.size
  clear b8
  have HM := Lib.hid (markBends_any w3.heap.size c4 bl.length t4 cs4 w8 R8.out Q4.out HLE.out.2.1)
  go_wp2_with fail
  refine HM.out.mono ?_
  rintro e w9 ⟨rfl, y9⟩
  have N3 := Lib.hid B3.out.size
  have B9 := Lib.hid (B8.out.trans (Only.below y9 B3.out.size B8.out.size))
  have P9 := Lib.hid (OwnI.only P8.out y9 (fun k hk => by have := (World.ownsRow.lt O3.out k hk).2; omega))
  have O9 := Lib.hid (OwnI.only O8.out y9 (fun k hk => by have := (World.ownsRow.lt O8.out k hk).1; have := G4.out; omega))
  have N9 : Hid (w4.heap.size ≤ w9.heap.size) := Nat.le_trans N8.out y9.2.2.2.1
  clear y9
  have hk4 : ¬ 1 + 4 * (bl.length : Int) < 0 := by omega
  have HQ9 := Lib.hid (eq_own O9.out P9.out HNL.out HN3.out HI64.out)
  go_wp2_with fail
  refine HQ9.out.mono ?_
  rintro e w10 ⟨rfl, b10⟩
  have B10 := Lib.hid (B9.out.trans (b10.mono B9.out.size))
  have P10 := Lib.hid (P9.out.below b10)
  have O10 := Lib.hid (O9.out.below b10)
  have N10 : Hid (w4.heap.size ≤ w10.heap.size) := Nat.le_trans N9.out b10.size
  clear b10
  have HK := Lib.hid (markI_any A1 nl c1 w4.heap.size lr w10 O10.out HNL.out.symm (by have := HN3.out; omega))
  go_wp2_with fail
  refine HK.out.mono ?_
  rintro e w11 ⟨rfl, o11, b11⟩
  have B11 := Lib.hid (B10.out.trans (b11.mono B4.out.size))
  have P11 := Lib.hid (P10.out.past (H := w4.heap.size) (fun k hk => by have := (World.ownsRow.lt O4.out k hk).2; omega) b11)
  have O11 := Lib.hid o11
  have N11 : Hid (w4.heap.size ≤ w11.heap.size) := Nat.le_trans N10.out b11.size
  clear o11 b11
  have HH := Lib.hid (heldI_any A1 nl c1 w4.heap.size lr w11 O11.out HNL.out.symm (by have := HN3.out; omega))
  have hq1 : ¬ (nl : Int) + 1 < 0 := by omega
  go_wp2_with fail
  refine HH.out.mono ?_
  rintro e w12 ⟨rfl, b12⟩
  have B12 := Lib.hid (B11.out.trans (b12.mono B11.out.size))
  have P12 := Lib.hid (P11.out.below b12)
  have O12 := Lib.hid (O11.out.below b12)
  have N12 : Hid (w4.heap.size ≤ w12.heap.size) := Nat.le_trans N11.out b12.size
  clear b12
  go_wp2_with fail
  refine (HT.out _ B12.out HLE.out.1).mono ?_
  rintro e w13 ⟨c13, rfl, s13, b13, g13, _⟩
  have S13 := Lib.hid s13
  have B13 := Lib.hid (B12.out.trans (b13.mono B12.out.size))
  have P13 := Lib.hid (P12.out.below b13)
  have O13 := Lib.hid (O12.out.below b13)
  clear s13 b13 g13
  go_wp2_with fail
  refine (HI.out _ _ _ S13.out HLE.out.2.1).mono ?_
  rintro e w14 ⟨A2, c14, rfl, o14, b14⟩
  have B14 := Lib.hid (B13.out.trans (b14.mono B13.out.size))
  have P14 := Lib.hid (P13.out.below b14)
  have O14 := Lib.hid (O13.out.below b14)
  have X14 := Lib.hid o14
  clear o14 b14
  have HQ14 := Lib.hid (eq_own X14.out P14.out HNL.out HN3.out HI64.out)
  go_wp2_with fail
  refine HQ14.out.mono ?_
  rintro e w15 ⟨rfl, b15⟩
  have B15 := Lib.hid (B14.out.trans (b15.mono B14.out.size))
  have O15 := Lib.hid (O14.out.below b15)
  clear b15
  have HH2 := Lib.hid (heldI_any A1 nl c1 w4.heap.size lr w15 O15.out HNL.out.symm (by have := HN3.out; omega))
  go_wp2_with fail
  refine HH2.out.mono ?_
  rintro e w16 ⟨rfl, b16⟩
  have B16 := Lib.hid (B15.out.trans (b16.mono B15.out.size))
  clear b16
  go_wp2_with fail
  go_ret
  exact ⟨rfl, B16.out⟩
end Go.Proofs.Ytgojebiipcngoaa.GriL
