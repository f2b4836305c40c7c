/- Numbers in decimal: the walks of the reference's l01Dec and of the program's Decimal. -/
import Derived.Test.YtdadldfplooooaaDoorPlain
import Derived.Test.YtdadldfplooooaaDoorShelf
import Derived.Lib.AppendIntMem
import Derived.Lib.ItoaLen
import Derived.Lib.ItoaMem
import Derived.Lib.UnsafeStr
import Derived.Lib.BufferWrite
import Derived.Lib.Hide
import Derived.Laws.IdiomStrings
import Derived.Laws.OwnMore
import Derived.Deep.AppendLies
import Derived.OwnWalk
import Derived.WalkKit
import Derived.Below
import Derived.BigCall
import Derived.Outline
namespace Go.Proofs.YtdadldfplooooaaDoor.TxtA
open Go.RowKit Go.Proofs.YtdadldfplooooaaDoor.Plain

/-- A number in decimal. -/
def dec (n : Int) : ByteArray := ⟨(Lib.itoa n).toArray⟩
/-- The digits of a number; none of 0. -/
def D0 (u : Nat) : List UInt8 := if u = 0 then [] else Lib.decDigits u
theorem D0_step {u : Nat} (h : 0 < u) : D0 u = D0 (u / 10) ++ [UInt8.ofNat (48 + u % 10)] := by
  unfold D0
  rw [if_neg (by omega)]
  by_cases h1 : u < 10
  · rw [Lib.decDigits_one h1, if_pos (by omega), Nat.mod_eq_of_lt h1]; rfl
  · rw [if_neg (by omega), Lib.decDigits, dif_neg h1]
theorem dig_val (u : Nat) : ((UInt8.ofNat (48 + u % 10)).toNat : Int) = 48 + (u : Int) % 10 := by
  rw [UInt8.toNat_ofNat', Nat.mod_eq_of_lt (by omega)]
  omega
theorem digits_len {u : Nat} (hu : u ≤ 9223372036854775808) {l : List UInt8} {v : Nat} (h : D0 v ++ l.reverse = Lib.decDigits u) : l.length ≤ 21 := by
  have a := congrArg List.length h
  simp only [List.length_append, List.length_reverse] at a
  have b : (Lib.decDigits u).length ≤ 21 := by
    rcases Nat.eq_zero_or_pos u with h0 | h0
    · subst h0; rw [Lib.decDigits_one (by omega)]; simp
    · have := Lib.itoa_length_le (-(u : Int)) (by omega) (by omega)
      rw [Lib.itoa_neg u h0] at this
      simp at this
      omega
  omega
theorem info_u8 : (Tryd.prog.info? 5).map (fun i => (i.zero, i.size, i.bytes)) = some (some (.int .u8 0), 1, 1) := by kernel_rfl
/-- A slice of bytes of the call's own, from block B on. -/
def Own8 (W : World) (B : Nat) (v : Value) (l : List UInt8) : Prop := W.ownsRow B 5 1 v l.length (Lib.byteCells l)
theorem Own8.snoc {W : World} {B : Nat} {v : Value} {l : List UInt8} {x : UInt8} {z : Int} (h : W.ownsRow B 5 1 v (l.length + 1) (Lib.byteCells l ++ [.int .u8 z])) (hz : (x.toNat : Int) = z) : Own8 W B v (l ++ [x]) := by
  subst hz
  unfold Own8
  rw [Lib.byteCells_append, List.length_append]
  exact h
theorem grown_over {w w' : World} {r : Option Nat} {B : Nat} (h : w.grownBy w' r) (hr : ∀ k, r = some k → B ≤ k) (hB : B ≤ w.heap.size) : Below B w w' :=
  ⟨h.os, h.tape, h.output, h.size, fun k hk => h.block k (by omega) (fun e => by have := hr k e.symm; omega)⟩
theorem Own8.own {W : World} {B : Nat} {v : Value} {l : List UInt8} (h : Own8 W B v l) : ∀ k, v.ownBlock = some k → B ≤ k := fun k hk => (h.lt k hk).1
theorem Own8.below {W W' : World} {B : Nat} {v : Value} {l : List UInt8} (h : Own8 W B v l) {B' : Nat} (hb : Below B' W W') (hv : ∀ k, v.ownBlock = some k → k < B') : Own8 W' B v l := by
  obtain ⟨h1, h2⟩ := h
  refine ⟨h1, ?_⟩
  rcases h2 with h2 | ⟨g, cap, cur, rfl, hB, hg, h3⟩
  · exact .inl h2
  · exact .inr ⟨g, cap, cur, rfl, hB, (hb.block g (hv g rfl)).trans hg, h3⟩
theorem Own8.form {W : World} {B : Nat} {v : Value} {l : List UInt8} (h : Own8 W B v l) (h0 : 0 < l.length) : ∃ g cap, v = .slice (some ⟨g, 0, none⟩) l.length cap ∧ B ≤ g ∧ g < W.heap.size := World.ownsRow.form h h0
theorem Own8.at {W : World} {B g cap : Nat} {l : List UInt8} (h : Own8 W B (.slice (some ⟨g, 0, none⟩) l.length cap) l) (j : Nat) (hj : j < l.length) : W.cell? ⟨g, j, none⟩ = some (.int .u8 ((l.getD j 0).toNat : Int)) := by
  rw [World.ownsRow.cellAt h j (by omega)]
  simp [Lib.byteCells, List.getElem?_eq_getElem hj, List.getD_eq_getElem?_getD]
theorem rev_step8 {l : List UInt8} {j : Nat} (h0 : 0 < j) (hj : j ≤ l.length) : (l.drop (j - 1)).reverse = (l.drop j).reverse ++ [l.getD (j - 1) 0] := by
  have e : l.drop (j - 1) = l[j - 1]'(by omega) :: l.drop (j - 1 + 1) := List.drop_eq_getElem_cons (by omega)
  rw [e, show j - 1 + 1 = j by omega, List.reverse_cons]
  congr 1
  simp [List.getD_eq_getElem?_getD, List.getElem?_eq_getElem (show j - 1 < l.length by omega)]
theorem below_alloc (W : World) (o : Obj) : Below W.heap.size W (W.alloc o) := (Below.refl _ _).alloc (Nat.le_refl _) o
theorem neg_mod (u : Nat) : (-(u : Int)).tmod 10 = -((u : Int) % 10) := by rw [Int.neg_tmod, Int.tmod_eq_emod_of_nonneg (by omega)]
theorem neg_div (u : Nat) : (-(u : Int)).tdiv 10 = -((u : Int) / 10) := by rw [Int.neg_tdiv, Int.tdiv_eq_ediv_of_nonneg (by omega)]
theorem ret_str {a b : ByteArray} (h : a = b) : Ending.returned (.string a) = .returned (.string b) := by rw [h]
theorem val64 {a b : Int} (h : a = b) : Value.int .i64 a = .int .i64 b := by rw [h]

set_option maxRecDepth 100000 in
theorem specDec_any (n : Int) (h1 : -9223372036854775808 ≤ n) (h2 : n ≤ 9223372036854775807) (w : World) :
    Calls Tryd.prog 66 #[.int .i64 n] w fun e w' => e = .returned (.string (dec n)) ∧ Below w.heap.size w w' := by
  rcases Int.lt_trichotomy n 0 with hn | hn | hn
  · obtain ⟨a, rfl⟩ : ∃ a : Nat, n = -(a : Int) := ⟨n.natAbs, by omega⟩
    have ha : 0 < a := by omega
    have HA1 := Lib.hid h1
    have hab : a ≤ 9223372036854775808 := by omega
    have HAB := Lib.hid hab
    clear h1 h2 hab
    have hne0 : (-(a : Int) == (0 : Int)) = false := by rw [beq_eq_false_iff_ne]; omega
    have hng : -(a : Int) < 0 := by omega
    have HO0 : Hid (Own8 (w.alloc (.cells #[] 5)) w.heap.size (.slice (some ⟨w.heap.size, 0, none⟩) 0 0) []) := World.ownsRow_lit w #[] 0 (Nat.le_refl _) (by unfold maxLen; omega) rfl
    have HB0 := Lib.hid (below_alloc w (.cells #[] 5))
    obtain ⟨i0, hi, hz0, hz1, hz2⟩ := info_parts info_u8
    go_enter Tryd.func66, Tryd.ntmps66
    go_wp2
    generalize w.alloc (.cells #[] 5) = W1 at *
    go_loopw [3, 4] (fun v i wr => ∃ (u : Nat) (l : List UInt8), u ≤ 9223372036854775808 ∧ i = .int .i64 (-(u : Int)) ∧ Hid (D0 u ++ l.reverse = Lib.decDigits a) ∧ Hid (Below w.heap.size w wr) ∧ Hid (Own8 wr w.heap.size v l)) (fun _ i _ => (intOf i).natAbs)
    case atStart => exact ⟨a, [], by have := HAB.out; omega, rfl, by show D0 a ++ _ = _; unfold D0; rw [if_neg (by omega)]; simp, HB0.out, HO0⟩
    case round =>
      obtain ⟨u, l, hu, rfl, hd, hbr, hox⟩ := hrel
      have hln := digits_len (by have := HAB.out; omega) hd.out
      have HU := Lib.hid hu
      have k1 : IntKind.i64.wrap (-((u : Int) / 10)) = -((u : Int) / 10) := IntWalk.i64_in _ (by omega)
      clear hu
      have hwr := hbr.out.size
      by_cases h0 : 0 < u
      · have HS : Hid (D0 (u / 10) ++ (l ++ [UInt8.ofNat (48 + u % 10)]).reverse = Lib.decDigits a) := by show D0 (u / 10) ++ (l ++ [UInt8.ofNat (48 + u % 10)]).reverse = _; rw [List.reverse_append, List.reverse_singleton, ← List.append_assoc, ← D0_step h0]; exact hd.out
        have hx := dig_val u
        have HX := Lib.hid hx
        clear hx
        have b1 : 0 ≤ (u : Int) % 10 := by omega
        have b2 : (u : Int) % 10 < 10 := by omega
        have b3 : 0 ≤ (u : Int) / 10 := by omega
        have b5 : (u : Int) / 10 < (u : Int) := by omega
        have hne : ((-(u : Int)) == (0 : Int)) = false := by rw [beq_eq_false_iff_ne]; omega
        have n1 := neg_mod u
        have n2 := neg_div u
        have HQ : Hid ((((u / 10 : Nat) : Int)) = (u : Int) / 10) := by show (((u / 10 : Nat) : Int)) = (u : Int) / 10; omega
        generalize (u : Int) / 10 = uq at *
        generalize (u : Int) % 10 = xd at *
        by_cases hz : xd = 0
        · subst hz
          rw [Int.neg_zero] at n1
          clear b1 b2
          go_wp2_with (at_builtin; refine wpList_append_lies _ rfl _ _ 94 rfl w.heap.size 5 i0 (.int .u8 0) 1 1 Tryd.underlying94 hi hz0 hz1 hz2 rfl (by decide) _ l.length (Lib.byteCells l) rfl (World.ownsRow.alloc hox.out _) ⟨wr.heap.size, 0, none⟩ 1 1 [.int .u8 48] rfl rfl ?c2 ?c3 (by decide) ?c4 ?c5 ?c6 _ rfl ?_)
          try (case c2 => exact World.news_of_block (heap_alloc_new wr (.cells #[.int .u8 48] 5)))
          try (case c3 => first | exact (by intro u hu; simp at hu; subst hu; rfl) | rfl)
          case c4 => unfold maxLen; omega
          case c5 => omega
          case c6 => first | omega | (simp; omega)
          intro gc capc w2 hown hgrow hat hltc
          have HN : Hid (Own8 w2 w.heap.size (.slice (some ⟨gc, 0, none⟩) (l.length + 1) capc) (l ++ [UInt8.ofNat (48 + u % 10)])) := Own8.snoc hown (by rw [HX.out]; omega)
          have HN2 := Lib.hid (hbr.out.trans (((below_alloc wr _).mono hwr).trans (grown_over hgrow (Own8.own hox.out) (by simp; omega))))
          clear hown hgrow hat
          go_wp2
          go_roundw
          case rel => exact ⟨u / 10, _, by have := HU.out; omega, val64 (by rw [HQ.out]), HS.out, HN2.out, HN⟩
          case measure => simp [intOf]; omega
        · have hgt : -xd < 0 := by omega
          go_wp2_with (at_builtin; refine wpList_append_lies _ rfl _ _ 94 rfl w.heap.size 5 i0 (.int .u8 0) 1 1 Tryd.underlying94 hi hz0 hz1 hz2 rfl (by decide) _ l.length (Lib.byteCells l) rfl (World.ownsRow.alloc hox.out _) ⟨wr.heap.size, 0, none⟩ 1 1 [.int .u8 (48 + xd)] rfl rfl ?c2 ?c3 (by decide) ?c4 ?c5 ?c6 _ rfl ?_)
          try (case c2 => exact World.news_of_block (heap_alloc_new wr (.cells #[.int .u8 (48 + xd)] 5)))
          try (case c3 => first | exact (by intro u hu; simp at hu; subst hu; rfl) | rfl)
          case c4 => unfold maxLen; omega
          case c5 => omega
          case c6 => first | omega | (simp; omega)
          intro gc capc w2 hown hgrow hat hltc
          have HN : Hid (Own8 w2 w.heap.size (.slice (some ⟨gc, 0, none⟩) (l.length + 1) capc) (l ++ [UInt8.ofNat (48 + u % 10)])) := Own8.snoc hown HX.out
          have HN2 := Lib.hid (hbr.out.trans (((below_alloc wr _).mono hwr).trans (grown_over hgrow (Own8.own hox.out) (by simp; omega))))
          clear hown hgrow hat
          go_wp2
          go_roundw
          case rel => exact ⟨u / 10, _, by have := HU.out; omega, val64 (by rw [HQ.out]), HS.out, HN2.out, HN⟩
          case measure => simp [intOf]; omega
      · have e : u = 0 := by omega
        subst e
        have HL : Hid (l.reverse = Lib.decDigits a) := hd.out
        have hcount : 0 < l.length := by
          have e := congrArg List.length HL.out
          rw [List.length_reverse] at e
          rcases Nat.eq_zero_or_pos l.length with h | h
          · rw [h, Lib.decDigits_length, Lib.nDigits] at e
            split at e <;> omega
          · exact h
        go_wp2_with (at_builtin; refine wpList_append_lies _ rfl _ _ 94 rfl w.heap.size 5 i0 (.int .u8 0) 1 1 Tryd.underlying94 hi hz0 hz1 hz2 rfl (by decide) _ l.length (Lib.byteCells l) rfl (World.ownsRow.alloc hox.out _) ⟨wr.heap.size, 0, none⟩ 1 1 [.int .u8 45] rfl rfl ?e2 ?e3 (by decide) ?e4 ?e5 ?e6 _ rfl ?_)
        try (case e2 => exact World.news_of_block (heap_alloc_new wr (.cells #[.int .u8 45] 5)))
        try (case e3 => first | exact (by intro u hu; simp at hu; subst hu; rfl) | rfl)
        case e4 => unfold maxLen; omega
        case e5 => omega
        case e6 => first | omega | (simp; omega)
        intro ge cape w3 hown hgrow hat hlte
        have HOW : Hid (Own8 w3 w.heap.size (.slice (some ⟨ge, 0, none⟩) (l.length + 1) cape) (l ++ [45])) := Own8.snoc hown rfl
        have HBW := Lib.hid (hbr.out.trans (((below_alloc wr _).mono hwr).trans (grown_over hgrow (Own8.own hox.out) (by simp; omega))))
        have hl2 : (l ++ [45]).length = l.length + 1 := by simp
        rw [← hl2] at HOW
        clear hown hgrow hat hl2
        have hpos : 0 < (l ++ [(45 : UInt8)]).length := by simp
        have hup : (l ++ [(45 : UInt8)]).length ≤ 22 := by simp; omega
        obtain ⟨d, hd2⟩ : ∃ d, d = l ++ [(45 : UInt8)] := ⟨_, rfl⟩
        have hdl : l.length + 1 = d.length := by rw [hd2]; simp
        rw [← hd2] at HOW hpos hup
        have HDD := Lib.hid hd2
        clear hd2
        rw [hdl]
        clear hdl
        have hgd2 := (World.ownsRow.lt HOW.out ge rfl).2
        have HD := Lib.hid (fun j hj => Own8.at HOW.out j hj)
        have HO1 : Hid (Own8 (w3.alloc (.cells #[] 5)) w3.heap.size (.slice (some ⟨w3.heap.size, 0, none⟩) 0 0) (d.drop d.length).reverse) := by
          have e : (d.drop d.length).reverse = [] := by rw [List.drop_length]; rfl
          show Own8 _ _ _ (d.drop d.length).reverse
          rw [e]
          exact World.ownsRow_lit w3 #[] 0 (Nat.le_refl _) (by unfold maxLen; omega) rfl
        have HB1 := Lib.hid (below_alloc w3 (.cells #[] 5))
        go_wp2
        generalize w3.alloc (.cells #[] 5) = WL at *
        go_loopw [6, 7] (fun v i wr => ∃ j : Nat, j ≤ d.length ∧ i = .int .i64 ((j : Int) - 1) ∧ Hid (Below w3.heap.size w3 wr) ∧ Hid (Own8 wr w3.heap.size v (d.drop j).reverse)) (fun _ i _ => (intOf i + 1).toNat)
        case atStart => exact ⟨d.length, Nat.le_refl _, rfl, HB1.out, HO1⟩
        case round =>
          obtain ⟨j, hj, rfl, hbr, hox⟩ := hrel
          by_cases hlt : 0 < j
          · have c0 := (hbr.out.cell (p := ⟨ge, j - 1, none⟩) hgd2).trans (HD.out (j - 1) (by omega))
            have HA := Lib.hid (rev_step8 hlt hj)
            have hlk : (d.drop j).reverse.length ≤ 22 := by simp; omega
            have i1 : (0 : Int) ≤ (j : Int) - 1 := by omega
            have i2 : (1 : Int) ≤ (j : Int) := by omega
            have i3 : (j : Int) - 1 < (d.length : Int) := by omega
            have i4 : ((j : Int) - 1).toNat = j - 1 := by omega
            have hwr := hbr.out.size
            generalize d.getD (j - 1) 0 = x at *
            generalize (d.drop j).reverse = acc at *
            go_wp2_with (at_builtin; refine wpList_append_lies _ rfl _ _ 94 rfl w3.heap.size 5 i0 (.int .u8 0) 1 1 Tryd.underlying94 hi hz0 hz1 hz2 rfl (by decide) _ acc.length (Lib.byteCells acc) rfl (World.ownsRow.alloc hox.out _) ⟨wr.heap.size, 0, none⟩ 1 1 [.int .u8 (x.toNat : Int)] rfl rfl ?c2 ?c3 (by decide) ?c4 ?c5 ?c6 _ rfl ?_)
            try (case c2 => exact World.news_of_block (heap_alloc_new wr (.cells #[.int .u8 (x.toNat : Int)] 5)))
            try (case c3 => first | exact (by intro u hu; simp at hu; subst hu; rfl) | rfl)
            case c4 => unfold maxLen; omega
            case c5 => omega
            case c6 => first | omega | (simp; omega)
            intro gc capc w2 hown hgrow hat hltc
            have HN : Hid (Own8 w2 w3.heap.size (.slice (some ⟨gc, 0, none⟩) (acc.length + 1) capc) (acc ++ [x])) := Own8.snoc hown rfl
            have HN2 := Lib.hid (hbr.out.trans (((below_alloc wr _).mono hwr).trans (grown_over hgrow (Own8.own hox.out) (by simp; omega))))
            clear hown hgrow hat
            go_wp2
            go_roundw
            case rel => exact ⟨j - 1, by omega, val64 (by omega), HN2.out, by rw [HA.out]; exact HN.out⟩
            case measure => simp [intOf]; omega
          · have e : j = 0 := by omega
            subst e
            have hfin : Own8 wr w3.heap.size _ d.reverse := hox.out
            have HF := Lib.hid hfin
            obtain ⟨r, hr⟩ : ∃ r, r = d.reverse := ⟨_, rfl⟩
            have hrl : 0 < r.length := by rw [hr, List.length_reverse]; exact hpos
            rw [← hr] at hfin
            obtain ⟨go, capo, rfl, _, _⟩ := hfin.form hrl
            have hcv := run_convert_bytes_back (P := Tryd.prog) wr 94 9 5 ⟨go, 0, none⟩ capo r Tryd.underlying94 Tryd.underlying5 Tryd.underlying9 (fun j hj => World.ownsRow.cells hfin (g := go) rfl j _ (by simp [Lib.byteCells, hj]))
            have HR := Lib.hid hr
            clear hr hfin
            go_wp2
            go_ret
            exact ⟨ret_str (by unfold dec; rw [Lib.itoa_neg a ha, ← HL.out, HR.out, HDD.out, List.reverse_append]; rfl), HBW.out.trans (hbr.out.mono HBW.out.size)⟩
  · subst hn
    go_enter Tryd.func66, Tryd.ntmps66
    go_wp2
    go_ret
    exact ⟨by unfold dec Lib.itoa; rw [if_neg (by omega), Lib.decDigits_one (by decide)]; rfl, Below.refl _ _⟩
  · obtain ⟨a, rfl⟩ : ∃ a : Nat, n = (a : Int) := ⟨n.natAbs, by omega⟩
    have ha : 0 < a := by omega
    have hab : a ≤ 9223372036854775807 := by omega
    have HAB := Lib.hid hab
    clear h1 h2 hab
    have hne0 : ((a : Int) == (0 : Int)) = false := by rw [beq_eq_false_iff_ne]; omega
    have hng : ¬ (a : Int) < 0 := by omega
    have HO0 : Hid (Own8 (w.alloc (.cells #[] 5)) w.heap.size (.slice (some ⟨w.heap.size, 0, none⟩) 0 0) []) := World.ownsRow_lit w #[] 0 (Nat.le_refl _) (by unfold maxLen; omega) rfl
    have HB0 := Lib.hid (below_alloc w (.cells #[] 5))
    obtain ⟨i0, hi, hz0, hz1, hz2⟩ := info_parts info_u8
    go_enter Tryd.func66, Tryd.ntmps66
    go_wp2
    generalize w.alloc (.cells #[] 5) = W1 at *
    go_loopw [3, 4] (fun v i wr => ∃ (u : Nat) (l : List UInt8), u ≤ 9223372036854775808 ∧ i = .int .i64 (u : Int) ∧ u ≤ 9223372036854775807 ∧ Hid (D0 u ++ l.reverse = Lib.decDigits a) ∧ Hid (Below w.heap.size w wr) ∧ Hid (Own8 wr w.heap.size v l)) (fun _ i _ => (intOf i).natAbs)
    case atStart => exact ⟨a, [], by have := HAB.out; omega, rfl, HAB.out, by show D0 a ++ _ = _; unfold D0; rw [if_neg (by omega)]; simp, HB0.out, HO0⟩
    case round =>
      obtain ⟨u, l, hu, rfl, hu2, hd, hbr, hox⟩ := hrel
      have hln := digits_len (by have := HAB.out; omega) hd.out
      have HU := Lib.hid hu
      have HU2 := Lib.hid hu2
      have k1 : IntKind.i64.wrap ((u : Int) / 10) = (u : Int) / 10 := IntWalk.i64_in _ (by omega)
      clear hu hu2
      have hwr := hbr.out.size
      by_cases h0 : 0 < u
      · have HS : Hid (D0 (u / 10) ++ (l ++ [UInt8.ofNat (48 + u % 10)]).reverse = Lib.decDigits a) := by show D0 (u / 10) ++ (l ++ [UInt8.ofNat (48 + u % 10)]).reverse = _; rw [List.reverse_append, List.reverse_singleton, ← List.append_assoc, ← D0_step h0]; exact hd.out
        have hx := dig_val u
        have HX := Lib.hid hx
        clear hx
        have b1 : 0 ≤ (u : Int) % 10 := by omega
        have b2 : (u : Int) % 10 < 10 := by omega
        have b3 : 0 ≤ (u : Int) / 10 := by omega
        have b5 : (u : Int) / 10 < (u : Int) := by omega
        have hne : ((u : Int) == (0 : Int)) = false := by rw [beq_eq_false_iff_ne]; omega
        go_wp2_with (at_builtin; refine wpList_append_lies _ rfl _ _ 94 rfl w.heap.size 5 i0 (.int .u8 0) 1 1 Tryd.underlying94 hi hz0 hz1 hz2 rfl (by decide) _ l.length (Lib.byteCells l) rfl (World.ownsRow.alloc hox.out _) ⟨wr.heap.size, 0, none⟩ 1 1 [.int .u8 (48 + (u : Int) % 10)] rfl rfl ?c2 ?c3 (by decide) ?c4 ?c5 ?c6 _ rfl ?_)
        try (case c2 => exact World.news_of_block (heap_alloc_new wr (.cells #[.int .u8 (48 + (u : Int) % 10)] 5)))
        try (case c3 => first | exact (by intro u hu; simp at hu; subst hu; rfl) | rfl)
        case c4 => unfold maxLen; omega
        case c5 => omega
        case c6 => first | omega | (simp; omega)
        intro gc capc w2 hown hgrow hat hltc
        have HN : Hid (Own8 w2 w.heap.size (.slice (some ⟨gc, 0, none⟩) (l.length + 1) capc) (l ++ [UInt8.ofNat (48 + u % 10)])) := Own8.snoc hown HX.out
        have HN2 := Lib.hid (hbr.out.trans (((below_alloc wr _).mono hwr).trans (grown_over hgrow (Own8.own hox.out) (by simp; omega))))
        clear hown hgrow hat
        go_wp2
        go_roundw
        case rel => exact ⟨u / 10, _, by have := HU.out; omega, val64 (by omega), by have := HU2.out; omega, HS.out, HN2.out, HN⟩
        case measure => simp [intOf]; omega
      · have e : u = 0 := by omega
        subst e
        have HL : Hid (l.reverse = Lib.decDigits a) := hd.out
        have hpos : 0 < l.length := by
          have e := congrArg List.length HL.out
          rw [List.length_reverse] at e
          rcases Nat.eq_zero_or_pos l.length with h | h
          · rw [h, Lib.decDigits_length, Lib.nDigits] at e
            split at e <;> omega
          · exact h
        have hup : l.length ≤ 22 := by omega
        obtain ⟨WD, rfl⟩ : ∃ WD : World, WD = wr := ⟨_, rfl⟩
        have HOW := hox
        have HBW := hbr
        obtain ⟨gd, capd, rfl, hgd, hgd2⟩ := HOW.out.form hpos
        have HD := Lib.hid (fun j hj => Own8.at HOW.out j hj)
        have HO1 : Hid (Own8 (WD.alloc (.cells #[] 5)) WD.heap.size (.slice (some ⟨WD.heap.size, 0, none⟩) 0 0) (l.drop l.length).reverse) := by
          have e : (l.drop l.length).reverse = [] := by rw [List.drop_length]; rfl
          show Own8 _ _ _ (l.drop l.length).reverse
          rw [e]
          exact World.ownsRow_lit WD #[] 0 (Nat.le_refl _) (by unfold maxLen; omega) rfl
        have HB1 := Lib.hid (below_alloc WD (.cells #[] 5))
        go_wp2
        generalize WD.alloc (.cells #[] 5) = WL at *
        go_loopw [6, 7] (fun v i wr => ∃ j : Nat, j ≤ l.length ∧ i = .int .i64 ((j : Int) - 1) ∧ Hid (Below WD.heap.size WD wr) ∧ Hid (Own8 wr WD.heap.size v (l.drop j).reverse)) (fun _ i _ => (intOf i + 1).toNat)
        case atStart => exact ⟨l.length, Nat.le_refl _, rfl, HB1.out, HO1⟩
        case round =>
          obtain ⟨j, hj, rfl, hbr, hox⟩ := hrel
          by_cases hlt : 0 < j
          · have c0 := (hbr.out.cell (p := ⟨gd, j - 1, none⟩) hgd2).trans (HD.out (j - 1) (by omega))
            have HA := Lib.hid (rev_step8 hlt hj)
            have hlk : (l.drop j).reverse.length ≤ 22 := by simp; omega
            have i1 : (0 : Int) ≤ (j : Int) - 1 := by omega
            have i2 : (1 : Int) ≤ (j : Int) := by omega
            have i3 : (j : Int) - 1 < (l.length : Int) := by omega
            have i4 : ((j : Int) - 1).toNat = j - 1 := by omega
            have hwr := hbr.out.size
            generalize l.getD (j - 1) 0 = x at *
            generalize (l.drop j).reverse = acc at *
            go_wp2_with (at_builtin; refine wpList_append_lies _ rfl _ _ 94 rfl WD.heap.size 5 i0 (.int .u8 0) 1 1 Tryd.underlying94 hi hz0 hz1 hz2 rfl (by decide) _ acc.length (Lib.byteCells acc) rfl (World.ownsRow.alloc hox.out _) ⟨wr.heap.size, 0, none⟩ 1 1 [.int .u8 (x.toNat : Int)] rfl rfl ?c2 ?c3 (by decide) ?c4 ?c5 ?c6 _ rfl ?_)
            try (case c2 => exact World.news_of_block (heap_alloc_new wr (.cells #[.int .u8 (x.toNat : Int)] 5)))
            try (case c3 => first | exact (by intro u hu; simp at hu; subst hu; rfl) | rfl)
            case c4 => unfold maxLen; omega
            case c5 => omega
            case c6 => first | omega | (simp; omega)
            intro gc capc w2 hown hgrow hat hltc
            have HN : Hid (Own8 w2 WD.heap.size (.slice (some ⟨gc, 0, none⟩) (acc.length + 1) capc) (acc ++ [x])) := Own8.snoc hown rfl
            have HN2 := Lib.hid (hbr.out.trans (((below_alloc wr _).mono hwr).trans (grown_over hgrow (Own8.own hox.out) (by simp; omega))))
            clear hown hgrow hat
            go_wp2
            go_roundw
            case rel => exact ⟨_, _, _, _, _, _, _, _, _, _, _, _, _, ⟨j - 1, by omega, val64 (by omega), HN2.out, by rw [HA.out]; exact HN.out⟩, rfl⟩
            case measure => simp [intOf]; omega
          · have e : j = 0 := by omega
            subst e
            have hfin : Own8 wr WD.heap.size _ l.reverse := hox.out
            have HF := Lib.hid hfin
            obtain ⟨r, hr⟩ : ∃ r, r = l.reverse := ⟨_, rfl⟩
            have hrl : 0 < r.length := by rw [hr, List.length_reverse]; exact hpos
            rw [← hr] at hfin
            obtain ⟨go, capo, rfl, _, _⟩ := hfin.form hrl
            have hcv := run_convert_bytes_back (P := Tryd.prog) wr 94 9 5 ⟨go, 0, none⟩ capo r Tryd.underlying94 Tryd.underlying5 Tryd.underlying9 (fun j hj => World.ownsRow.cells hfin (g := go) rfl j _ (by simp [Lib.byteCells, hj]))
            have HR := Lib.hid hr
            clear hr hfin
            go_wp2
            go_ret
            exact ⟨ret_str (by unfold dec; rw [Lib.itoa_nonneg, ← HL.out, HR.out]), HBW.out.trans (hbr.out.mono HBW.out.size)⟩

end Go.Proofs.YtdadldfplooooaaDoor.TxtA
