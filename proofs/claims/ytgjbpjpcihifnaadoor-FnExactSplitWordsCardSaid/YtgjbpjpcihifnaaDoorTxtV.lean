/- Marks laid on a list of texts, marks found again; the law of words of a line. -/
import Derived.Test.YtgjbpjpcihifnaaDoorTxtU
import Derived.Deep.RegionHeld3
namespace Go.Proofs.YtgjbpjpcihifnaaDoor.TxtV
open Go.RowKit Go.Proofs.YtgjbpjpcihifnaaDoor.Plain Go.Proofs.YtgjbpjpcihifnaaDoor.TxtA Go.Proofs.YtgjbpjpcihifnaaDoor.TxtB Go.Proofs.YtgjbpjpcihifnaaDoor.TxtC Go.Proofs.YtgjbpjpcihifnaaDoor.TxtH Go.Proofs.YtgjbpjpcihifnaaDoor.TxtS Go.Proofs.YtgjbpjpcihifnaaDoor.TxtT Go.Proofs.YtgjbpjpcihifnaaDoor.TxtU Go.Proofs.YtgjbpjpcihifnaaDoor.WalkA Go.Proofs.YtgjbpjpcihifnaaDoor.WalkC

theorem val64' {a b : Int} (h : a = b) : Ending.returned (.int .i64 a) = .returned (.int .i64 b) := by rw [h]
theorem keepM {wr wc w2 : World} {g k : Nat} {v : Value} (hg : g < wr.heap.size) (h1 : wc.cell? ⟨g, k, none⟩ = some v) (h2 : Below wr.heap.size wr wc) (h : Below wc.heap.size wc w2) : w2.cell? ⟨g, k, none⟩ = some v ∧ Below wr.heap.size wr w2 :=
  ⟨(h.cell (p := ⟨g, k, none⟩) (Nat.lt_of_lt_of_le hg h2.size)).trans h1, h2.trans (h.mono h2.size)⟩
/-- A list whose first k texts are marks. -/
def mkd (k : Nat) (l : List ByteArray) : List ByteArray := (List.range l.length).map fun j => if j < k then mk (1 + j) else l.getD j ⟨#[]⟩
theorem mkd_len (k : Nat) (l : List ByteArray) : (mkd k l).length = l.length := by simp [mkd]
theorem mkd_at (k : Nat) (l : List ByteArray) {j : Nat} (hj : j < l.length) : (mkd k l)[j]? = some (if j < k then mk (1 + j) else l.getD j ⟨#[]⟩) := by
  unfold mkd
  rw [List.getElem?_map, List.getElem?_range hj]
  rfl
theorem mkd_zero (l : List ByteArray) : mkd 0 l = l := by
  apply List.ext_getElem?
  intro j
  by_cases hj : j < l.length
  · rw [mkd_at 0 l hj, if_neg (by omega), List.getD_eq_getElem?_getD, List.getElem?_eq_getElem hj]
    rfl
  · rw [List.getElem?_eq_none (by rw [mkd_len]; omega), List.getElem?_eq_none (by omega)]
theorem mkd_step {k : Nat} {l : List ByteArray} (hk : k < l.length) : (mkd k l).set k (mk (1 + k)) = mkd (k + 1) l := by
  apply List.ext_getElem?
  intro j
  by_cases hj : j < l.length
  · rw [mkd_at (k + 1) l hj]
    by_cases e : j = k
    · subst e
      rw [List.getElem?_set_self (by rw [mkd_len]; exact hj), if_pos (by omega)]
    · rw [List.getElem?_set_ne (fun h => e h.symm), mkd_at k l hj]
      by_cases h2 : j < k
      · rw [if_pos h2, if_pos (by omega)]
      · rw [if_neg h2, if_neg (by omega)]
  · rw [List.getElem?_eq_none (by rw [List.length_set, mkd_len]; omega), List.getElem?_eq_none (by rw [mkd_len]; omega)]
theorem OwnS.set {W : World} {B g cap n j : Nat} {l : List ByteArray} {x : ByteArray} (h : OwnS W B (.slice (some ⟨g, 0, none⟩) n cap) l) (_ : j < l.length) : OwnS (W.setCell ⟨g, j, none⟩ (.string x)) B (.slice (some ⟨g, 0, none⟩) n cap) (l.set j x) := by
  obtain ⟨h1, h2⟩ := h
  rcases h2 with ⟨h2, _⟩ | ⟨g', cap', cur, e, hB, hg, h3, h4, h5, h6⟩
  · cases h2
  · injection e with e1 e2 e3
    injection e1 with e1
    injection e1 with e1
    subst e1; subst e2; subst e3
    refine ⟨by simp, .inr ⟨g, cap, cur.setIfInBounds j (.string x), by rw [List.length_set], hB, ?_, by rw [List.length_set]; exact h3, h4, by rw [Array.size_setIfInBounds]; exact h5, ?_⟩⟩
    · simp [World.setCell, Array.getElem?_modify, hg]
    · rw [List.length_set, Array.toList_setIfInBounds, List.take_set, h6, List.map_set]
theorem OwnS.frozen {W : World} {B g cap n : Nat} {l : List ByteArray} (h : OwnS W B (.slice (some ⟨g, 0, none⟩) n cap) l) (i : Nat) : W.frozen? ⟨g, i, none⟩ = false := by
  rcases h.2 with ⟨h2, _⟩ | ⟨g', cap', cur, e, hB, hg, _⟩
  · cases h2
  · injection e with e1 e2 e3
    injection e1 with e1
    injection e1 with e1
    subst e1
    simp [World.frozen?, hg]
theorem OwnS.at {W : World} {B g cap n : Nat} {l : List ByteArray} (h : OwnS W B (.slice (some ⟨g, 0, none⟩) n cap) l) (hn : n = l.length) {j : Nat} {x : ByteArray} (hx : l[j]? = some x) : W.cell? ⟨g, j, none⟩ = some (.string x) := by
  have hj := (List.getElem?_eq_some_iff.1 hx).1
  obtain ⟨_, h2⟩ := OwnS.strs h hn
  obtain ⟨g', e, _, hc⟩ := h2 (by omega)
  injection e with e
  injection e with e
  subst e
  exact hc j x hx

set_option maxHeartbeats 1000000 in
theorem markS_any (A : Option Addr) (n c B : Nat) (l : List ByteArray) (w : World) (ho : OwnS w B (.slice A n c) l) (hn : n = l.length) (hn2 : n ≤ 2097152) (hB : B ≤ w.heap.size) :
    Calls Tryd.prog 16 #[.slice A n c, .int .i64 1] w fun e w' => e = .returned (.int .i64 (1 + (n : Int))) ∧ OwnS w' B (.slice A n c) (mkd n l) ∧ Below B w w' := by
  subst hn
  have HO := Lib.hid ho
  clear ho
  go_enter Tryd.func16, Tryd.ntmps16
  go_wp2
  go_loopw [1, 5] (fun q i wr => ∃ k : Nat, k ≤ l.length ∧ q = .int .i64 ((k : Int) + 1) ∧ i = .int .i64 k ∧ Hid (OwnS wr B (.slice A l.length c) (mkd k l)) ∧ Hid (Below B w wr)) (fun _ i _ => l.length - (intOf i).toNat)
  case atStart => exact ⟨0, Nat.zero_le _, rfl, rfl, by rw [mkd_zero]; exact HO.out, Below.refl _ _⟩
  case round =>
    obtain ⟨k, hk, rfl, rfl, hox, hbr⟩ := hrel
    have hwr := hbr.out.size
    by_cases hlt : k < l.length
    · have HM : Hid (∀ W, Calls Tryd.prog 36 #[.int .i64 ((k : Int) + 1)] W fun e w' => e = .returned (.string (mk (1 + k))) ∧ Below W.heap.size W w') := fun W => by
        have := markText_any (1 + k) (by omega) (by omega) W
        rw [show ((1 + k : Nat) : Int) = (k : Int) + 1 by omega] at this
        exact this
      have HS := Lib.hid (mkd_step hlt)
      have hlm : k < (mkd k l).length := by rw [mkd_len]; exact hlt
      obtain ⟨g, cap, e, _, hg, _⟩ := hox.out.form (by omega)
      injection e with e1 e2 e3
      subst e1; subst e3
      have hBg := (World.ownsRow.lt hox.out g rfl).1
      have HL := Lib.hid hlm
      have HA := Lib.hid (mkd_at k l hlt)
      clear hlm e2
      generalize mk (1 + k) = m at *
      go_wp2_with fail
      refine (HM.out _).mono ?_
      rintro e w1 ⟨rfl, hb1⟩
      have HO1 := Lib.hid (hox.out.below hb1)
      have HB1 := Lib.hid (hbr.out.trans (hb1.mono (Nat.le_trans hB hwr)))
      clear hb1
      have p1 := OwnS.frozen HO1.out k
      have q1 := OwnS.at HO1.out (mkd_len k l).symm HA.out
      go_wp2_with fail
      go_roundw
      case rel => exact ⟨k + 1, by omega, by go_num, by go_num, by rw [← HS.out]; exact OwnS.set HO1.out HL.out, HB1.out.setCell hBg _⟩
      case measure => simp [intOf]; omega
    · have e : k = l.length := by omega
      subst e
      go_wp2
      go_ret
      exact ⟨val64' (by omega), hox.out, hbr.out⟩

set_option maxHeartbeats 1000000 in
theorem heldS_any (A : Option Addr) (n c B : Nat) (l : List ByteArray) (w : World) (ho : OwnS w B (.slice A n c) (mkd n l)) (hn : n = l.length) (hn2 : n ≤ 2097152) :
    Calls Tryd.prog 17 #[.slice A n c, .int .i64 1] w fun e w' => e = .returned (.int .i64 (1 + (n : Int))) ∧ Below w.heap.size w w' := by
  subst hn
  have HO := Lib.hid (OwnS.strs ho (mkd_len _ _).symm)
  clear ho
  go_enter Tryd.func17, Tryd.ntmps17
  go_wp2
  go_loopw [1, 5] (fun q i wr => ∃ k : Nat, k ≤ l.length ∧ q = .int .i64 ((k : Int) + 1) ∧ i = .int .i64 k ∧ Hid (Below w.heap.size w wr)) (fun _ i _ => l.length - (intOf i).toNat)
  case atStart => exact ⟨0, Nat.zero_le _, rfl, rfl, Below.refl _ _⟩
  case round =>
    obtain ⟨k, hk, rfl, rfl, hbr⟩ := hrel
    by_cases hlt : k < l.length
    · have HM : Hid (∀ W, Calls Tryd.prog 36 #[.int .i64 ((k : Int) + 1)] W fun e w' => e = .returned (.string (mk (1 + k))) ∧ Below W.heap.size W w') := fun W => by
        have := markText_any (1 + k) (by omega) (by omega) W
        rw [show ((1 + k : Nat) : Int) = (k : Int) + 1 by omega] at this
        exact this
      obtain ⟨g, rfl, hg, hc⟩ := HO.out.2 (by omega)
      have hx := mkd_at l.length l hlt
      rw [if_pos hlt] at hx
      have c1 := (hbr.out.cell (p := ⟨g, k, none⟩) hg).trans (hc k _ hx)
      have hgr : g < wr.heap.size := Nat.lt_of_lt_of_le hg hbr.out.size
      clear hc hx
      have HBB : Hid (∀ wx : World, Below wr.heap.size wr wx → Below w.heap.size w wx) := fun wx hx => hbr.out.trans (hx.mono hbr.out.size)
      generalize mk (1 + k) = m at *
      go_wp2_with fail
      go_region_held3 (fun w' => w'.cell? ⟨g, k, none⟩ = some (.string m) ∧ Below wr.heap.size wr w')
        (first | exact ⟨c1, (Below.refl _ _).drew⟩ | (go_split_ands; exact keepM hgr (by assumption) (by assumption) (by assumption)))
        (first | (go_at_call 36; refine (HM.out _).mono ?_; rintro e w2 ⟨rfl, hb2⟩))
      go_wp2
      go_roundw
      case rel => exact ⟨k + 1, by omega, by go_num, by go_num, HBB.out _ (by go_split_ands; assumption)⟩
      case measure => simp [intOf]; omega
    · have e : k = l.length := by omega
      subst e
      go_wp2
      go_ret
      exact ⟨val64' (by omega), hbr.out⟩
end Go.Proofs.YtgjbpjpcihifnaaDoor.TxtV
