/- The walks of parting a text: the reference's l01Split, words of a line. -/
import Derived.Test.YtomkldkmaabbnaaDoorTxtH
import Derived.Test.YtomkldkmaabbnaaDoorTxtS
import Derived.Deep.Onto
import Derived.ChangeAgain
namespace Go.Proofs.YtomkldkmaabbnaaDoor.TxtT
open Go.RowKit Go.Proofs.YtomkldkmaabbnaaDoor.Plain Go.Proofs.YtomkldkmaabbnaaDoor.TxtA Go.Proofs.YtomkldkmaabbnaaDoor.TxtB Go.Proofs.YtomkldkmaabbnaaDoor.TxtC Go.Proofs.YtomkldkmaabbnaaDoor.TxtH Go.Proofs.YtomkldkmaabbnaaDoor.TxtS Go.Proofs.YtomkldkmaabbnaaDoor.WalkA Go.Proofs.YtomkldkmaabbnaaDoor.WalkC

/-- Texts in memory of the call's own. -/
def NewS (w : World) (l : List ByteArray) (e : Ending) (w' : World) : Prop := ∃ v, e = .returned v ∧ OwnS w' w.heap.size v l ∧ Below w.heap.size w w'
theorem byte_get (s : ByteArray) (k : Nat) (h : k < s.size) : s[k] = (dl s).getD k 0 := by
  rw [List.getD_eq_getElem?_getD, List.getElem?_eq_getElem (by exact h)]; rfl
theorem OwnS.fresh (w : World) : OwnS (w.alloc (.cells #[] 9)) w.heap.size (.slice (some ⟨w.heap.size, 0, none⟩) 0 0) [] := World.ownsRow_lit w #[] 0 (Nat.le_refl _) (by unfold maxLen; omega) rfl
theorem OwnS.up {W : World} {B : Nat} {v : Value} {l : List ByteArray} (h : OwnS W B v l) : ∀ k, v.ownBlock = some k → B ≤ k := fun k hk => (World.ownsRow.lt h k hk).1

set_option maxRecDepth 100000 in
set_option maxHeartbeats 1000000 in
theorem l01Split_any (s : ByteArray) (c : UInt8) (hs : s.size ≤ 1048576) (w : World) :
    Calls Tryd.prog 9 #[.string s, .int .u8 (c.toNat : Int)] w (NewS w (spl s c)) := by
  obtain ⟨i0, hi, hz0, hz1, hz2⟩ := info_parts info_str
  have HO0 := Lib.hid (OwnS.fresh w)
  have HB0 := Lib.hid (below_alloc w (.cells #[] 9))
  go_enter Tryd.func9, Tryd.ntmps9
  go_wp2
  generalize w.alloc (.cells #[] 9) = W1 at *
  go_loopw [5, 6, 7] (fun v f i wr => ∃ (fr k : Nat) (out : List ByteArray), k ≤ s.size ∧ fr ≤ k ∧ out.length ≤ k ∧ f = .int .i64 fr ∧ i = .int .i64 k ∧ Hid (Parted s c out fr k) ∧ Hid (Below w.heap.size w wr) ∧ Hid (OwnS wr w.heap.size v out)) (fun _ _ i _ => s.size - (intOf i).toNat)
  case atStart => exact ⟨0, 0, [], Nat.zero_le _, Nat.le_refl _, Nat.le_refl _, rfl, rfl, Parted.start s c, HB0.out, HO0.out⟩
  case round =>
    obtain ⟨fr, k, out, hk, hf, hol, rfl, rfl, hp, hbr, hox⟩ := hrel
    have hwr := hbr.out.size
    by_cases hlt : k < s.size
    · have hx := byte_get s k hlt
      have e1 : (s.extract fr k).size ≤ 1048576 := by rw [ByteArray.size_extract]; omega
      by_cases hb : (dl s).getD k 0 = c
      · have HN0 := Lib.hid (hp.out.cut hlt hb)
        rw [hb] at hx
        clear hb
        go_wp2_with (at_builtin; refine wpList_append_lies _ rfl _ _ 30 rfl w.heap.size 9 i0 (.string ByteArray.empty) 1 16 Tryd.underlying30 hi hz0 hz1 hz2 rfl (by decide) _ out.length (out.map Value.string) rfl (World.ownsRow.alloc hox.out _) ⟨wr.heap.size, 0, none⟩ 1 1 [.string (s.extract fr k)] rfl rfl ?c2 ?c3 (by decide) ?c4 ?c5 ?c6 _ rfl ?_)
        try (case c2 => exact World.news_of_block (heap_alloc_new wr (.cells #[.string (s.extract fr k)] 9)))
        try (case c3 => first | exact (by intro u hu; simp at hu; subst hu; rfl) | rfl)
        case c4 => unfold maxLen; omega
        case c5 => omega
        case c6 => first | omega | (simp; omega)
        intro gc capc w2 hown hgrow hat hltc
        have HN : Hid (OwnS w2 w.heap.size (.slice (some ⟨gc, 0, none⟩) (out.length + 1) capc) (out ++ [(s.extract fr k)])) := OwnS.snoc hown
        have HN2 := Lib.hid (hbr.out.trans (((below_alloc wr _).mono hwr).trans (grown_over hgrow (OwnS.up hox.out) (by simp; omega))))
        clear hown hgrow hat
        go_wp2
        go_roundw
        case rel => exact ⟨k + 1, k + 1, out ++ [s.extract fr k], by omega, Nat.le_refl _, by rw [List.length_append]; show out.length + 1 ≤ k + 1; omega, by go_num, by go_num, HN0.out, HN2.out, HN.out⟩
        case measure => simp [intOf]; omega
      · have HN0 := Lib.hid (hp.out.go hlt hb)
        rw [← hx] at hb
        have hb2 : ((s[k].toNat : Int) == (c.toNat : Int)) = false := by
          rw [beq_eq_false_iff_ne]
          intro e
          exact hb (UInt8.toNat_inj.1 (by omega))
        clear hb hx
        go_wp2
        go_roundw
        case rel => exact ⟨fr, k + 1, out, by omega, by omega, by omega, rfl, by go_num, HN0.out, hbr.out, hox.out⟩
        case measure => simp [intOf]; omega
    · have e : k = s.size := by omega
      subst e
      have HD := Lib.hid hp.out.done
      have e1 : (s.extract fr s.size).size ≤ 1048576 := by rw [ByteArray.size_extract]; omega
      go_wp2_with (at_builtin; refine wpList_append_lies _ rfl _ _ 30 rfl w.heap.size 9 i0 (.string ByteArray.empty) 1 16 Tryd.underlying30 hi hz0 hz1 hz2 rfl (by decide) _ out.length (out.map Value.string) rfl (World.ownsRow.alloc hox.out _) ⟨wr.heap.size, 0, none⟩ 1 1 [.string (s.extract fr s.size)] rfl rfl ?c2 ?c3 (by decide) ?c4 ?c5 ?c6 _ rfl ?_)
      try (case c2 => exact World.news_of_block (heap_alloc_new wr (.cells #[.string (s.extract fr s.size)] 9)))
      try (case c3 => first | exact (by intro u hu; simp at hu; subst hu; rfl) | rfl)
      case c4 => unfold maxLen; omega
      case c5 => omega
      case c6 => first | omega | (simp; omega)
      intro gc capc w2 hown hgrow hat hltc
      have HN : Hid (OwnS w2 w.heap.size (.slice (some ⟨gc, 0, none⟩) (out.length + 1) capc) (out ++ [(s.extract fr s.size)])) := OwnS.snoc hown
      have HN2 := Lib.hid (hbr.out.trans (((below_alloc wr _).mono hwr).trans (grown_over hgrow (OwnS.up hox.out) (by simp; omega))))
      clear hown hgrow hat
      go_wp2
      go_ret
      exact ⟨_, rfl, by rw [← HD.out]; exact HN.out, HN2.out⟩

theorem full_next {xs : List ByteArray} {k : Nat} {x : ByteArray} (h : xs[k]? = some x) : full (xs.take (k + 1)) = full (xs.take k) ++ full [x] := by
  have hk := (List.getElem?_eq_some_iff.1 h).1
  have e := (List.getElem?_eq_some_iff.1 h).2
  rw [List.take_succ_eq_append_getElem hk, e]
  exact List.filter_append _ _
theorem full_no {x : ByteArray} (h : x = ⟨#[]⟩) : full [x] = [] := by unfold full; simp [h]
theorem full_yes {x : ByteArray} (h : x ≠ ⟨#[]⟩) : full [x] = [x] := by unfold full; simp [h]
theorem full_le (xs : List ByteArray) : (full xs).length ≤ xs.length := List.length_filter_le _ _
theorem spl_pos (s : ByteArray) (c : UInt8) : 0 < (spl s c).length := by rw [spl_len]; omega
theorem spl_le (s : ByteArray) (c : UInt8) : (spl s c).length ≤ s.size + 1 := by
  rw [spl_len]
  have := Lib.countB_le ⟨#[c]⟩ (Nat.le_refl 1) s.size s (Nat.le_refl _)
  omega
theorem not_empty {x : ByteArray} (h : x ≠ ⟨#[]⟩) : x.toList.isEmpty = false := by
  rw [ByteArray.toList_eq]
  cases hl : x.data.toList with
  | nil => exact absurd (dl_inj (a := x) (b := ⟨#[]⟩) hl) h
  | cons _ _ => rfl
/-- The words of a line. -/
def words (s : ByteArray) : List ByteArray := full (spl s 32)
/-- What the library's split leaves: the pieces in a new block. -/
def Shp (w : World) : Prop := w.ShapedOpen Tryd.prog
theorem Shp.below {w w' : World} (h : Shp w) (hb : Below w.heap.size w w') : Shp w' := World.ShapedOpen.keptBut h (hb.frame (fun _ => False)) (fun _ h => h.elim)
end Go.Proofs.YtomkldkmaabbnaaDoor.TxtT
