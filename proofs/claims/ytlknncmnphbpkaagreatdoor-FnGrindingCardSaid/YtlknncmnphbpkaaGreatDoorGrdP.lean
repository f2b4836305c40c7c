/- Plain facts for the law on grinding: a bend's text read back. -/
import Derived.Test.YtlknncmnphbpkaaGreatDoorTxtY
import Derived.Test.YtlknncmnphbpkaaGreatDoorRbA
namespace Go.Proofs.YtlknncmnphbpkaaGreatDoor.GrdP
set_option maxRecDepth 100000
open Go.RowKit Go.Proofs.YtlknncmnphbpkaaGreatDoor.Plain Go.Proofs.YtlknncmnphbpkaaGreatDoor.BndA Go.Proofs.YtlknncmnphbpkaaGreatDoor.TxtG Go.Proofs.YtlknncmnphbpkaaGreatDoor.TxtN Go.Proofs.YtlknncmnphbpkaaGreatDoor.TxtQ Go.Proofs.YtlknncmnphbpkaaGreatDoor.TxtX Go.Proofs.YtlknncmnphbpkaaGreatDoor.TxtS Go.Proofs.YtlknncmnphbpkaaGreatDoor.TxtC Go.Proofs.YtlknncmnphbpkaaGreatDoor.TxtY Go.Proofs.YtlknncmnphbpkaaGreatDoor.RbA Go.Lib
/-- A text of a list gives the list. -/
theorem text_back {l : List Int} (hf : fits l = true) (h0 : 0 < l.length) : rdL (listT l) = l ∧ rlB (listT l) = true := by
  have ht := listT_eq hf h0
  obtain ⟨h1, h2⟩ := fits_iff.1 hf
  have e : split (dl (listT l)) [44] = l.map itoa := by
    rw [ht]
    refine split_join _ ?_ ?_
    · intro e
      have := congrArg List.length e
      rw [List.length_map, List.length_nil] at this
      omega
    · intro x hx
      obtain ⟨n, _, rfl⟩ := List.mem_map.1 hx
      exact sep_itoa (.inl (by decide)) n
  rw [← spl_map] at e
  have en : nums (spl (listT l) 44) = l := by
    have : nums (spl (listT l) 44) = ((spl (listT l) 44).map dl).map (fun p => (numP p).1) := by
      unfold nums num
      rw [List.map_map]
      rfl
    rw [this, e, List.map_map]
    conv => rhs; rw [← List.map_id l]
    refine List.map_congr_left fun x hx => ?_
    have := h1 x hx
    show (numP (itoa x)).1 = id x
    rw [numP_itoa x (by omega) (by omega)]
    rfl
  have hb : rdB (listT l) = true := rd_of (by rw [en])
  refine ⟨by unfold rdL; rw [if_pos hb, en], ?_⟩
  unfold rlB
  rw [hb, Bool.or_true]
/-- A bend's text gives the bend. -/
theorem bend_back {s : ByteArray} {r l c : Int} (h : bendB s r l c = true) : rbB (bendP s r l c) = true ∧ rbId (bendP s r l c) = s ∧ rbR (bendP s r l c) = r ∧ rbLn (bendP s r l c) = l ∧ rbC (bendP s r l c) = c := by
  obtain ⟨hnm, hr, hl, hc⟩ := bendB_iff.1 h
  have e : bendP s r l c = bendQ s r l c := by unfold bendP; rw [if_pos h]
  have hn := name_free (c := 32) hnm (.inl (by decide))
  obtain ⟨c1, c2⟩ := cut_hit (bendQ_dl s r l c) hn
  have hf : fits [r, l, c] = true := TxtI.fits3 hr hl hc
  have ht : listT [r, l, c] = listP [r, l, c] := by unfold listT; rw [if_pos hf]
  have h3 : rbN (bendQ s r l c) = [r, l, c] := by
    have := (text_back hf (by simp)).1
    rw [ht] at this
    unfold rbN
    rw [c2]
    exact this
  have hp : rbP (bendQ s r l c) = bendQ s r l c := by
    unfold rbP
    rw [h3, c1]
    exact e
  have hb : rbB (bendQ s r l c) = true := by
    unfold rbB
    rw [h3, hp]
    simp
  rw [e]
  unfold rbId rbR rbLn rbC
  rw [if_pos hb, if_pos hb, if_pos hb, if_pos hb, h3, c1]
  exact ⟨hb, rfl, rfl, rfl, rfl⟩
theorem bendP_size {s : ByteArray} {r l c : Int} (h : bendB s r l c = true) : (bendP s r l c).size ≤ 1048576 := by
  obtain ⟨hnm, hr, hl, hc⟩ := bendB_iff.1 h
  have hs10 : s.size ≤ 10 := by
    rcases Nat.lt_or_ge 10 s.size with h | h
    · rw [WalkH.nameB_long h] at hnm; cases hnm
    · exact h
  have := TxtI.list3_size hr hl hc
  have e : bendP s r l c = bendQ s r l c := by unfold bendP; rw [if_pos h]
  rw [e]
  unfold bendQ
  rw [ByteArray.size_append, ByteArray.size_append]
  have : (⟨#[32]⟩ : ByteArray).size = 1 := rfl
  omega
end Go.Proofs.YtlknncmnphbpkaaGreatDoor.GrdP
