/- The walks of lists read from texts, program and reference, and their law. -/
import Derived.Test.YtlknncmnphbpkaaGreatDoorTxtP
import Derived.Test.YtlknncmnphbpkaaGreatDoorTxtQ
import Derived.Test.YtlknncmnphbpkaaGreatDoorTxtR
import Derived.Test.YtlknncmnphbpkaaGreatDoorTxtT
namespace Go.Proofs.YtlknncmnphbpkaaGreatDoor.TxtY
open Go.RowKit Go.Proofs.YtlknncmnphbpkaaGreatDoor.Plain Go.Proofs.YtlknncmnphbpkaaGreatDoor.TxtA Go.Proofs.YtlknncmnphbpkaaGreatDoor.TxtB Go.Proofs.YtlknncmnphbpkaaGreatDoor.TxtC Go.Proofs.YtlknncmnphbpkaaGreatDoor.TxtG Go.Proofs.YtlknncmnphbpkaaGreatDoor.TxtH Go.Proofs.YtlknncmnphbpkaaGreatDoor.TxtN Go.Proofs.YtlknncmnphbpkaaGreatDoor.TxtS Go.Proofs.YtlknncmnphbpkaaGreatDoor.TxtP Go.Proofs.YtlknncmnphbpkaaGreatDoor.TxtQ Go.Proofs.YtlknncmnphbpkaaGreatDoor.TxtR Go.Proofs.YtlknncmnphbpkaaGreatDoor.TxtT Go.Proofs.YtlknncmnphbpkaaGreatDoor.WalkA Go.Proofs.YtlknncmnphbpkaaGreatDoor.WalkC

/-- Does a text give a list? -/
def rlB (s : ByteArray) : Bool := decide (s = ⟨#[45]⟩) || rdB s
theorem rl_dash : rlB ⟨#[45]⟩ = true := by unfold rlB; simp
theorem rl_else {s : ByteArray} (h : s ≠ ⟨#[45]⟩) : rlB s = rdB s := by unfold rlB; simp [h]
theorem dash_ne {s : ByteArray} (h : s ≠ ⟨#[45]⟩) : (s.toList == [45]) = false := by
  have := list_ne h
  rw [ByteArray.toList_eq ⟨#[45]⟩] at this
  exact this
theorem rdL_dash : rdL ⟨#[45]⟩ = [] := by unfold rdL; rw [if_neg (by rw [dash_bad]; decide)]
theorem rdL_no {s : ByteArray} (h : rdB s = false) : rdL s = [] := by unfold rdL; rw [if_neg (by rw [h]; decide)]
theorem rdL_yes {s : ByteArray} (h : rdB s = true) : rdL s = nums (spl s 44) := by unfold rdL; rw [if_pos h]
def RL (s : ByteArray) (w : World) (e : Ending) (w' : World) : Prop := ∃ v, e = .returned (.tuple #[v, .bool (rlB s)]) ∧ OwnI w' w.heap.size v (rdL s) ∧ Below w.heap.size w w'
theorem RL.no {s : ByteArray} {w w' : World} (h : rlB s = false) (h2 : rdL s = []) (hb : Below w.heap.size w w') : RL s w (.returned (.tuple #[.slice none 0 0, .bool false])) w' := ⟨_, by rw [h], by rw [h2]; exact OwnI.none _ _, hb⟩
theorem RL.yes {s : ByteArray} {w w' : World} {v : Value} {l : List Int} (h : rlB s = true) (h2 : rdL s = l) (ho : OwnI w' w.heap.size v l) (hb : Below w.heap.size w w') : RL s w (.returned (.tuple #[v, .bool true])) w' := ⟨_, by rw [h], by rw [h2]; exact ho, hb⟩
theorem piece_le (c : UInt8) : ∀ (l : List UInt8), ∀ x ∈ Lib.split l [c], x.length ≤ l.length
  | [], x, h => by
    rw [split_nil] at h
    have : x = [] := by simpa using h
    subst this
    exact Nat.le_refl _
  | b :: l, x, h => by
    have ih := piece_le c l
    rw [List.length_cons]
    by_cases hb : b = c
    · subst hb
      rw [split_eq] at h
      rcases List.mem_cons.1 h with h | h
      · subst h; simp
      · have := ih x h; omega
    · rw [split_ne l hb] at h
      cases hs : Lib.split l [c] with
      | nil => exact absurd hs (split_ne_nil c l)
      | cons y r =>
        rw [hs] at h ih
        rcases List.mem_cons.1 h with h | h
        · subst h
          have := ih y List.mem_cons_self
          rw [List.length_append, List.length_singleton]
          omega
        · have := ih x (List.mem_cons_of_mem _ h); omega
theorem part_le {s x : ByteArray} {c : UInt8} {k : Nat} (h : (spl s c)[k]? = some x) : x.size ≤ s.size := by
  have hm : dl x ∈ Lib.split (dl s) [c] := by
    rw [← spl_data]
    exact List.mem_map.2 ⟨x, List.mem_of_getElem? h, rfl⟩
  exact piece_le c (dl s) _ hm
theorem take_snoc' {xs : List ByteArray} {k : Nat} {x : ByteArray} (h : xs[k]? = some x) : xs.take (k + 1) = xs.take k ++ [x] := by
  have hk := (List.getElem?_eq_some_iff.1 h).1
  have e := (List.getElem?_eq_some_iff.1 h).2
  rw [List.take_succ_eq_append_getElem hk, e]
theorem nums_snoc {xs : List ByteArray} {k : Nat} {x : ByteArray} (h : xs[k]? = some x) : nums (xs.take (k + 1)) = nums (xs.take k) ++ [num x] := by
  rw [take_snoc' h]
  unfold nums
  rw [List.map_append, List.map_singleton]
theorem okN_snoc {xs : List ByteArray} {k : Nat} {x : ByteArray} (h : xs[k]? = some x) (ha : (xs.take k).all okN = true) (hx : okN x = true) : (xs.take (k + 1)).all okN = true := by
  rw [take_snoc' h, List.all_append, ha]
  simp [hx]
theorem okN_bad {s x : ByteArray} {k : Nat} (h : (spl s 44)[k]? = some x) (hx : okN x = false) : rdB s = false := by
  cases hr : rdB s
  · rfl
  · exfalso
    unfold rdB at hr
    rw [Bool.and_eq_true, List.all_eq_true] at hr
    have := hr.2 x (List.mem_of_getElem? h)
    rw [hx] at this
    cases this
theorem rd_long {s : ByteArray} (h : 64 < (spl s 44).length) : rdB s = false := by
  have : ¬ (spl s 44).length ≤ 64 := by omega
  simp [rdB, this]
theorem rd_all {s : ByteArray} (h : (spl s 44).length ≤ 64) (ha : (spl s 44).all okN = true) : rdB s = true := by
  unfold rdB
  rw [ha, decide_eq_true h]
  rfl
theorem in64_nums (P : List ByteArray) : In64 (nums P) := fun i hi => by
  have hi' : i < P.length := by rw [nums_len] at hi; exact hi
  have e : iAt (nums P) i = num P[i] := by simp [iAt, nums, List.getD_eq_getElem?_getD, List.getElem?_eq_getElem hi']
  rw [e]
  have := num_bound P[i]
  omega

set_option maxRecDepth 100000 in
set_option maxHeartbeats 1000000 in
theorem implReadList_any (s : ByteArray) (hs : s.size ≤ 1048576) (w : World) (hsh : Shp w) (hE : Env w) : Calls Tryz.prog 63 #[.string s] w (RL s w) := by
  obtain ⟨i0, hi, hz0, hz1, hz2⟩ := info_parts info_i64
  by_cases hd : s = ⟨#[45]⟩
  · subst hd
    have HF := Lib.hid (RL.yes (w := w) rl_dash rdL_dash (OwnI.none w _) (Below.refl _ _))
    clear hi hz0 hz1 hz2 hs hsh hE
    go_enter Tryz.func63, Tryz.ntmps63
    go_wp2
    go_ret2
    exact HF.out
  · have hlen : (spl s 44).length = Lib.countB s ⟨#[44]⟩ + 1 := spl_len s 44
    have HS : Hid (Calls Tryz.prog 76 #[.string s, .string ⟨#[44]⟩] w fun e w' => e = .returned (.slice (some ⟨w.heap.size, 0, none⟩) (spl s 44).length (spl s 44).length) ∧ w' = w.alloc (.cells ((spl s 44).map Value.string).toArray 9)) := by
      rw [hlen]
      exact Tryz.strings_Split_shaped s ⟨#[44]⟩ w hsh (by omega) (Nat.le_refl 1)
    clear hlen hsh
    have HR := Lib.hid (rl_else hd)
    have hdn := dash_ne hd
    clear hd
    have hsl := spl_le s 44
    have HSP := Lib.hid (spl_pos s 44)
    have HPL := Lib.hid (fun k x (h : (spl s 44)[k]? = some x) => part_le h)
    have HYES := Lib.hid (rdL_yes (s := s))
    have HNO := Lib.hid (rdL_no (s := s))
    have HRY := Lib.hid (rd_yes (s := s))
    have HRO := Lib.hid (rd_of (s := s))
    have HIN := Lib.hid (in64_nums (spl s 44))
    have HE := Lib.hid hE
    clear hE
    generalize spl s 44 = P at *
    go_enter Tryz.func63, Tryz.ntmps63
    go_wp2_with fail
    refine HS.out.mono ?_
    rintro e w1 ⟨rfl, rfl⟩
    have HB1 := Lib.hid (below_alloc w (.cells (P.map Value.string).toArray 9))
    have HC : Hid (∀ (k : Nat) x, P[k]? = some x → (w.alloc (.cells (P.map Value.string).toArray 9)).cell? ⟨w.heap.size, k, none⟩ = some (.string x)) := fun k x hx => by
      rw [cell_of_row _ _ k _ _ _ (heap_alloc_new w (.cells (P.map Value.string).toArray 9))]
      simp [hx]
    have hg : w.heap.size < (w.alloc (.cells (P.map Value.string).toArray 9)).heap.size := by simp
    generalize w.alloc (.cells (P.map Value.string).toArray 9) = w1 at *
    have hw1 := HB1.out.size
    go_wp2_with fail
    go_loopw [4, 14] (fun v i wr => ∃ (k : Nat) (out : List Int), k ≤ P.length ∧ out.length = k ∧ i = .int .i64 k ∧ Hid (out = nums (P.take k)) ∧ Hid (Below w1.heap.size w1 wr) ∧ Hid (OwnI wr w1.heap.size v out)) (fun _ i _ => P.length - (intOf i).toNat)
    case atStart => exact ⟨0, [], Nat.zero_le _, rfl, rfl, rfl, Below.refl _ _, OwnI.none _ _⟩
    case round =>
      obtain ⟨k, out, hk, hol, rfl, hp, hbr, hox⟩ := hrel
      have HBW := Lib.hid (HB1.out.trans (hbr.out.mono hw1))
      have hwr := hbr.out.size
      by_cases hlt : k < P.length
      · obtain ⟨x, hx⟩ : ∃ x, P[k]? = some x := ⟨_, List.getElem?_eq_getElem hlt⟩
        have c1 := (hbr.out.cell (p := ⟨w.heap.size, k, none⟩) hg).trans (HC.out k x hx)
        have HNUM := Lib.hid (nums_snoc hx)
        have HN := Lib.hid (implReadDecimal_any x (Nat.le_trans (HPL.out k x hx) hs) wr (HE.out.below HBW.out))
        unfold NumI at HN
        have e1 : (numP (dl x)).1 = num x := rfl
        rw [e1] at HN
        clear hx e1
        generalize (numP (dl x)).2 = cc at *
        generalize num x = y at *
        go_wp2_with fail
        refine HN.out.mono ?_
        rintro e w2 ⟨rfl, hb2⟩
        have HO2 := Lib.hid (hox.out.below hb2)
        have HB2 := Lib.hid (hbr.out.trans (hb2.mono hwr))
        have hw2 := HB2.out.size
        clear hb2
        go_wp2_with (at_builtin; refine wpList_append_lies _ rfl _ _ 33 rfl w1.heap.size 2 i0 (.int .i64 0) 1 8 Tryz.underlying33 hi hz0 hz1 hz2 rfl (by decide) _ out.length (out.map (Value.int .i64)) rfl (World.ownsRow.alloc HO2.out _) ⟨w2.heap.size, 0, none⟩ 1 1 [.int .i64 (y)] rfl rfl ?c2 ?c3 (by decide) ?c4 ?c5 ?c6 _ rfl ?_)
        try (case c2 => exact World.news_of_block (heap_alloc_new w2 (.cells #[.int .i64 (y)] 2)))
        try (case c3 => first | exact (by intro u hu; simp at hu; subst hu; rfl) | rfl)
        case c4 => unfold maxLen; omega
        case c5 => omega
        case c6 => first | omega | (simp; omega)
        intro gc capc w3 hown hgrow hat hltc
        have HN : Hid (OwnI w3 w1.heap.size (.slice (some ⟨gc, 0, none⟩) (k + 1) capc) (out ++ [y])) := OwnI.snoc' hol hown
        have HN2 := Lib.hid (HB2.out.trans (((below_alloc w2 _).mono hw2).trans (grown_over hgrow (OwnI.up HO2.out) (by simp; omega))))
        clear hown hgrow hat
        go_wp2
        go_roundw
        case rel => exact ⟨k + 1, out ++ [y], by omega, by rw [List.length_append, hol]; rfl, by go_num, by show out ++ [y] = _; rw [HNUM.out, hp.out], HN2.out, HN.out⟩
        case measure => simp [intOf]; omega
      · have e : k = P.length := by omega
        subst e
        have HP : Hid (out = nums P) := by show out = nums P; rw [hp.out, List.take_length]
        obtain ⟨A, c, rfl⟩ := OwnI.shape' hol hox.out
        have HL := Lib.hid (implListText_any A P.length c out wr (hox.out.ints hol.symm (by rw [HP.out]; exact HIN.out)) (by omega) (HE.out.tab.below HBW.out))
        clear hi hz0 hz1 hz2
        by_cases ht : listT out = s
        · have hrd := HRO.out (by rw [← HP.out]; exact ht)
          have HF := Lib.hid (fun w' (hb : Below wr.heap.size wr w') => RL.yes (w' := w') (HR.out.trans hrd) ((HYES.out hrd).trans HP.out.symm) ((OwnI.mono hox.out HB1.out.size).below hb) (HBW.out.trans (hb.mono HBW.out.size)))
          rw [ht] at HL
          clear ht hrd
          go_wp2_with fail
          refine HL.out.mono ?_
          rintro e w2 ⟨rfl, hb2⟩
          go_wp2_with fail
          go_ret2
          exact HF.out _ hb2
        · have hrd : rdB s = false := by
            cases h : rdB s
            · rfl
            · exact absurd (by rw [HP.out]; exact (HRY.out h).2) ht
          have HF := Lib.hid (fun w' (hb : Below wr.heap.size wr w') => RL.no (w' := w') (HR.out.trans hrd) (HNO.out hrd) (HBW.out.trans (hb.mono HBW.out.size)))
          have hne := list_ne ht
          clear hrd ht
          generalize listT out = lt at *
          go_wp2_with fail
          refine HL.out.mono ?_
          rintro e w2 ⟨rfl, hb2⟩
          go_wp2_with fail
          go_ret2
          exact HF.out _ hb2
end Go.Proofs.YtlknncmnphbpkaaGreatDoor.TxtY
/- The law of lists read from texts. -/
namespace Go.Proofs.YtlknncmnphbpkaaGreatDoor.TxtZ
open Go.RowKit Go.Proofs.YtlknncmnphbpkaaGreatDoor.Plain Go.Proofs.YtlknncmnphbpkaaGreatDoor.TxtA Go.Proofs.YtlknncmnphbpkaaGreatDoor.TxtB Go.Proofs.YtlknncmnphbpkaaGreatDoor.TxtC Go.Proofs.YtlknncmnphbpkaaGreatDoor.TxtG Go.Proofs.YtlknncmnphbpkaaGreatDoor.TxtH Go.Proofs.YtlknncmnphbpkaaGreatDoor.TxtP Go.Proofs.YtlknncmnphbpkaaGreatDoor.TxtQ Go.Proofs.YtlknncmnphbpkaaGreatDoor.TxtR Go.Proofs.YtlknncmnphbpkaaGreatDoor.TxtS Go.Proofs.YtlknncmnphbpkaaGreatDoor.TxtT Go.Proofs.YtlknncmnphbpkaaGreatDoor.TxtY Go.Proofs.YtlknncmnphbpkaaGreatDoor.WalkA Go.Proofs.YtlknncmnphbpkaaGreatDoor.WalkC

theorem rdL_in (s : ByteArray) : In64 (rdL s) := by
  cases h : rdB s
  · rw [TxtY.rdL_no h]; intro i hi; simp at hi
  · rw [TxtY.rdL_yes h]; exact in64_nums _
theorem rdL_le (s : ByteArray) : (rdL s).length ≤ 64 := by
  cases h : rdB s
  · rw [TxtY.rdL_no h]; simp
  · rw [TxtY.rdL_yes h, nums_len]
    unfold rdB at h
    rw [Bool.and_eq_true, decide_eq_true_eq] at h
    exact h.1
theorem drewB (w : World) (m : Nat) : Below w.heap.size w (w.drewN m) := ⟨rfl, rfl, rfl, Nat.le_refl _, fun _ _ => rfl⟩
end Go.Proofs.YtlknncmnphbpkaaGreatDoor.TxtZ
