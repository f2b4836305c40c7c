/- The laws' walks over lists of bends. -/
import Derived.Test.YthkocoljadopkaaBlsC
import Derived.Test.YthkocoljadopkaaBlsE
namespace Go.Proofs.Ythkocoljadopkaa.BlsL
open Go.RowKit Go.Proofs.Ythkocoljadopkaa.Plain Go.Proofs.Ythkocoljadopkaa.WalkA Go.Proofs.Ythkocoljadopkaa.WalkB Go.Proofs.Ythkocoljadopkaa.WalkC Go.Proofs.Ythkocoljadopkaa.WalkF Go.Proofs.Ythkocoljadopkaa.WalkH Go.Proofs.Ythkocoljadopkaa.BndA Go.Proofs.Ythkocoljadopkaa.BLaw Go.Proofs.Ythkocoljadopkaa.BlsA Go.Proofs.Ythkocoljadopkaa.BlsB Go.Proofs.Ythkocoljadopkaa.BlsC Go.Proofs.Ythkocoljadopkaa.BlsD Go.Proofs.Ythkocoljadopkaa.BlsE

theorem specValidBends_any (A : Option Addr) (n c : Nat) (bl : List Bnd) (w : World) (hs : Bnds w w.heap.size A n bl) (hn : n ≤ 9223372036854775807) :
    Calls Try.prog 19 #[.slice A n c] w fun e w' => e = .returned (.bool (listB bl)) ∧ Below w.heap.size w w' := by
  have HO := Lib.hid (specListOk_any A n c bl w.heap.size w hs hn)
  go_enter Try.func19, Try.ntmps19
  go_wp2_with (go_at_call 47; refine HO.out.mono ?_; rintro e w1 ⟨rfl, m, rfl⟩)
  go_ret
  exact ⟨rfl, drew_down ⟨_, rfl⟩ _⟩

theorem validBends (A : Option Addr) (n c : Nat) (bl : List Bnd) (w : World) (hs : Bnds w w.heap.size A n bl) (hn : n ≤ 9223372036854775807) :
    Calls Try.prog 5 #[.slice A n c] w fun e w' => e = .returned (.bool true) ∧ Below w.heap.size w w' := by
  have HT := Lib.hid (fun W (hW : Below w.heap.size w W) (h : n ≤ 1048576) => toBends_any A n c bl W (hs.below hW hW.size) h)
  have HZ := Lib.hid (szBends_any A n c bl w hs hn)
  have hl : bl.length = n := hs.1
  have HR := Lib.hid (fun A' c' (W : World) (h : Bnds W W.heap.size A' bl.length bl) (hn : bl.length ≤ 9223372036854775807) => specValidBends_any A' bl.length c' bl W h hn)
  have HI := Lib.hid (fun A' c' (W : World) (h : Bnds W W.heap.size A' bl.length bl) (hn : bl.length ≤ 9223372036854775807) => implListOk_any A' bl.length c' bl W h hn)
  have HE := Lib.hid (fun A' A'' c' c'' (W : World) (h : Bnds W W.heap.size A' bl.length bl) (h2 : Bnds W W.heap.size A'' bl.length bl) (hn : bl.length ≤ 9223372036854775807) => eqBends_any A' A'' bl.length c' c'' bl W h h2 hn)
  clear hs
  generalize listB bl = r at *
  go_enter Try.func5, Try.ntmps5
  go_wp2_with fail
  refine HZ.out.mono ?_
  rintro e w1 ⟨⟨z, rfl, z1, z2, z3⟩, b1⟩
  have B1 := Lib.hid b1
  clear b1
  by_cases hneg : z < 0
  · go_wp2
    go_ret
    exact ⟨rfl, B1.out⟩
  have hle := z3 (by omega)
  have hl2 : bl.length ≤ 9223372036854775807 := by omega
  have HLE := Lib.hid (And.intro hle (And.intro hl2 hl))
  clear hle hl2 hl
  go_wp2_with fail
  refine (HT.out _ B1.out HLE.out.1).mono ?_
  rintro e w2 ⟨c2, rfl, s2, b2, g2⟩
  have S2 := Lib.hid s2
  have B2 := Lib.hid (B1.out.trans (b2.mono B1.out.size))
  clear s2 b2 g2
  go_wp2_with fail
  refine (HR.out _ _ _ S2.out HLE.out.2.1).mono ?_
  rintro e w3 ⟨rfl, b3⟩
  have B3 := Lib.hid (B2.out.trans (b3.mono B2.out.size))
  clear b3
  go_wp2_with fail
  refine (HT.out _ B3.out HLE.out.1).mono ?_
  rintro e w4 ⟨c4, rfl, s4, b4, g4⟩
  have S4 := Lib.hid s4
  have B4 := Lib.hid (B3.out.trans (b4.mono B3.out.size))
  clear s4 b4 g4
  go_wp2_with fail
  refine (HI.out _ _ _ S4.out HLE.out.2.1).mono ?_
  rintro e w5 ⟨rfl, b5⟩
  have S5 := Lib.hid (S4.out.below b5 b5.size)
  have B5 := Lib.hid (B4.out.trans (b5.mono B4.out.size))
  clear b5
  go_wp2_with fail
  refine (HT.out _ B5.out HLE.out.1).mono ?_
  rintro e w6 ⟨c6, rfl, s6, b6, g6⟩
  have S6 := Lib.hid s6
  have S7 := Lib.hid (S5.out.below b6 b6.size)
  have B6 := Lib.hid (B5.out.trans (b6.mono B5.out.size))
  clear s6 b6 g6
  go_wp2_with fail
  refine (HE.out _ _ _ _ _ S7.out S6.out HLE.out.2.1).mono ?_
  rintro e w7 ⟨rfl, b7⟩
  have B7 := Lib.hid (B6.out.trans (b7.mono B6.out.size))
  clear b7
  go_wp2
  go_ret
  exact ⟨rfl, B7.out⟩

theorem slowestBend (A : Option Addr) (n c : Nat) (bl : List Bnd) (x : Int) (_ : (Lit.int .i64 x).wf = true) (w : World) (hs : Bnds w w.heap.size A n bl) (hn : n ≤ 9223372036854775807) :
    Calls Try.prog 11 #[.slice A n c, .int .i64 x] w fun e w' => e = .returned (.bool true) ∧ Below w.heap.size w w' := by
  have HT := Lib.hid (fun W (hW : Below w.heap.size w W) (h : n ≤ 1048576) => toBends_any A n c bl W (hs.below hW hW.size) h)
  have HZ := Lib.hid (szBends_any A n c bl w hs hn)
  have hl : bl.length = n := hs.1
  have HR := Lib.hid (fun A' c' (W : World) (h : Bnds W W.heap.size A' bl.length bl) (hn : bl.length ≤ 9223372036854775807) => specSlow_any A' bl.length c' bl x W h hn)
  have HI := Lib.hid (fun A' c' (W : World) (h : Bnds W W.heap.size A' bl.length bl) (hn : bl.length ≤ 9223372036854775807) => implSlow_any A' bl.length c' bl x W h hn)
  have HE := Lib.hid (fun A' A'' c' c'' (W : World) (h : Bnds W W.heap.size A' bl.length bl) (h2 : Bnds W W.heap.size A'' bl.length bl) (hn : bl.length ≤ 9223372036854775807) => eqBends_any A' A'' bl.length c' c'' bl W h h2 hn)
  clear hs
  generalize slowA bl x = r1 at *
  generalize slowB bl x = r2 at *
  generalize slowC bl x = r3 at *
  go_enter Try.func11, Try.ntmps11
  go_wp2_with fail
  refine HZ.out.mono ?_
  rintro e w1 ⟨⟨z, rfl, z1, z2, z3⟩, b1⟩
  have B1 := Lib.hid b1
  clear b1
  by_cases hneg : z < 0
  · go_wp2
    go_ret
    exact ⟨rfl, B1.out⟩
  have hle := z3 (by omega)
  have hl2 : bl.length ≤ 9223372036854775807 := by omega
  have HLE := Lib.hid (And.intro hle (And.intro hl2 hl))
  clear hle hl2 hl
  go_wp2_with fail
  refine (HT.out _ B1.out HLE.out.1).mono ?_
  rintro e w2 ⟨c2, rfl, s2, b2, g2⟩
  have S2 := Lib.hid s2
  have B2 := Lib.hid (B1.out.trans (b2.mono B1.out.size))
  clear s2 b2 g2
  go_wp2_with fail
  refine (HR.out _ _ _ S2.out HLE.out.2.1).mono ?_
  rintro e w3 ⟨rfl, b3⟩
  have B3 := Lib.hid (B2.out.trans (b3.mono B2.out.size))
  clear b3
  go_wp2_with fail
  refine (HT.out _ B3.out HLE.out.1).mono ?_
  rintro e w4 ⟨c4, rfl, s4, b4, g4⟩
  have S4 := Lib.hid s4
  have B4 := Lib.hid (B3.out.trans (b4.mono B3.out.size))
  clear s4 b4 g4
  go_wp2_with fail
  refine (HI.out _ _ _ S4.out HLE.out.2.1).mono ?_
  rintro e w5 ⟨rfl, b5⟩
  have S5 := Lib.hid (S4.out.below b5 b5.size)
  have B5 := Lib.hid (B4.out.trans (b5.mono B4.out.size))
  clear b5
  go_wp2_with fail
  refine (HT.out _ B5.out HLE.out.1).mono ?_
  rintro e w6 ⟨c6, rfl, s6, b6, g6⟩
  have S6 := Lib.hid s6
  have S7 := Lib.hid (S5.out.below b6 b6.size)
  have B6 := Lib.hid (B5.out.trans (b6.mono B5.out.size))
  clear s6 b6 g6
  go_wp2_with fail
  refine (HE.out _ _ _ _ _ S7.out S6.out HLE.out.2.1).mono ?_
  rintro e w7 ⟨rfl, b7⟩
  have B7 := Lib.hid (B6.out.trans (b7.mono B6.out.size))
  clear b7
  go_wp2
  go_ret
  exact ⟨rfl, B7.out⟩

theorem bendSeconds (A : Option Addr) (n c : Nat) (bl : List Bnd) (x : Int) (_ : (Lit.int .i64 x).wf = true) (w : World) (hs : Bnds w w.heap.size A n bl) (hn : n ≤ 9223372036854775807) :
    Calls Try.prog 10 #[.slice A n c, .int .i64 x] w fun e w' => e = .returned (.bool true) ∧ Below w.heap.size w w' := by
  have HT := Lib.hid (fun W (hW : Below w.heap.size w W) (h : n ≤ 1048576) => toBends_any A n c bl W (hs.below hW hW.size) h)
  have HZ := Lib.hid (szBends_any A n c bl w hs hn)
  have hl : bl.length = n := hs.1
  have HR := Lib.hid (fun A' c' (W : World) (h : Bnds W W.heap.size A' bl.length bl) (hn : bl.length ≤ 9223372036854775807) => specLast_any A' bl.length c' bl x W h hn)
  have HI := Lib.hid (fun A' c' (W : World) (h : Bnds W W.heap.size A' bl.length bl) (hn : bl.length ≤ 9223372036854775807) => implLast_any A' bl.length c' bl x W h hn)
  have HE := Lib.hid (fun A' A'' c' c'' (W : World) (h : Bnds W W.heap.size A' bl.length bl) (h2 : Bnds W W.heap.size A'' bl.length bl) (hn : bl.length ≤ 9223372036854775807) => eqBends_any A' A'' bl.length c' c'' bl W h h2 hn)
  clear hs
  generalize lastA bl x = r1 at *
  generalize lastC bl x = r2 at *
  go_enter Try.func10, Try.ntmps10
  go_wp2_with fail
  refine HZ.out.mono ?_
  rintro e w1 ⟨⟨z, rfl, z1, z2, z3⟩, b1⟩
  have B1 := Lib.hid b1
  clear b1
  by_cases hneg : z < 0
  · go_wp2
    go_ret
    exact ⟨rfl, B1.out⟩
  have hle := z3 (by omega)
  have hl2 : bl.length ≤ 9223372036854775807 := by omega
  have HLE := Lib.hid (And.intro hle (And.intro hl2 hl))
  clear hle hl2 hl
  go_wp2_with fail
  refine (HT.out _ B1.out HLE.out.1).mono ?_
  rintro e w2 ⟨c2, rfl, s2, b2, g2⟩
  have S2 := Lib.hid s2
  have B2 := Lib.hid (B1.out.trans (b2.mono B1.out.size))
  clear s2 b2 g2
  go_wp2_with fail
  refine (HR.out _ _ _ S2.out HLE.out.2.1).mono ?_
  rintro e w3 ⟨rfl, b3⟩
  have B3 := Lib.hid (B2.out.trans (b3.mono B2.out.size))
  clear b3
  go_wp2_with fail
  refine (HT.out _ B3.out HLE.out.1).mono ?_
  rintro e w4 ⟨c4, rfl, s4, b4, g4⟩
  have S4 := Lib.hid s4
  have B4 := Lib.hid (B3.out.trans (b4.mono B3.out.size))
  clear s4 b4 g4
  go_wp2_with fail
  refine (HI.out _ _ _ S4.out HLE.out.2.1).mono ?_
  rintro e w5 ⟨rfl, b5⟩
  have S5 := Lib.hid (S4.out.below b5 b5.size)
  have B5 := Lib.hid (B4.out.trans (b5.mono B4.out.size))
  clear b5
  go_wp2_with fail
  refine (HT.out _ B5.out HLE.out.1).mono ?_
  rintro e w6 ⟨c6, rfl, s6, b6, g6⟩
  have S6 := Lib.hid s6
  have S7 := Lib.hid (S5.out.below b6 b6.size)
  have B6 := Lib.hid (B5.out.trans (b6.mono B5.out.size))
  clear s6 b6 g6
  go_wp2_with fail
  refine (HE.out _ _ _ _ _ S7.out S6.out HLE.out.2.1).mono ?_
  rintro e w7 ⟨rfl, b7⟩
  have B7 := Lib.hid (B6.out.trans (b7.mono B6.out.size))
  clear b7
  go_wp2
  go_ret
  exact ⟨rfl, B7.out⟩

end Go.Proofs.Ythkocoljadopkaa.BlsL
