/- Plain laws on a text cut at its first mark, and on bends read from their texts. -/
import Derived.Test.YtlknncmnphbpkaaGreatDoorTxtQ
import Derived.Test.YtlknncmnphbpkaaGreatDoorBndA
import Derived.Lib.CutLaws
namespace Go.Proofs.YtlknncmnphbpkaaGreatDoor.TxtX
open Go Go.Lib Go.Proofs.YtlknncmnphbpkaaGreatDoor.Plain Go.Proofs.YtlknncmnphbpkaaGreatDoor.TxtA Go.Proofs.YtlknncmnphbpkaaGreatDoor.TxtG Go.Proofs.YtlknncmnphbpkaaGreatDoor.TxtN Go.Proofs.YtlknncmnphbpkaaGreatDoor.TxtS Go.Proofs.YtlknncmnphbpkaaGreatDoor.TxtQ Go.Proofs.YtlknncmnphbpkaaGreatDoor.WalkH Go.Proofs.YtlknncmnphbpkaaGreatDoor.BndA

theorem index_hit {c : UInt8} : ∀ (x y : List UInt8), c ∉ x → index (x ++ c :: y) [c] = (x.length : Int)
  | [], y, _ => by
    show index (c :: y) [c] = 0
    rw [index]
    simp [List.isPrefixOf]
  | b :: x, y, h => by
    have hb : b ≠ c := fun e => h (by rw [e]; exact List.mem_cons_self)
    have ih := index_hit x y (fun e => h (List.mem_cons_of_mem _ e))
    show index (b :: (x ++ c :: y)) [c] = _
    rw [index, if_neg (by simp [List.isPrefixOf, Ne.symm hb]), ih, if_neg (by simp), List.length_cons]
    omega
theorem index_miss {c : UInt8} : ∀ x : List UInt8, c ∉ x → index x [c] = -1
  | [], _ => by simp [index]
  | b :: x, h => by
    have hb : b ≠ c := fun e => h (by rw [e]; exact List.mem_cons_self)
    have ih := index_miss x (fun e => h (List.mem_cons_of_mem _ e))
    rw [index, if_neg (by simp [List.isPrefixOf, Ne.symm hb]), ih]
    rfl
/-- A text cut at the first c: what stands ahead, what stands behind. -/
def cutA (s : ByteArray) (c : UInt8) : ByteArray := ⟨(cut (dl s) [c]).1.toArray⟩
def cutZ (s : ByteArray) (c : UInt8) : ByteArray := ⟨(cut (dl s) [c]).2.1.toArray⟩
theorem cut_hit {s x y : ByteArray} {c : UInt8} (h : dl s = dl x ++ c :: dl y) (hx : c ∉ dl x) : cutA s c = x ∧ cutZ s c = y := by
  have e : cut (dl s) [c] = (dl x, dl y, true) := by
    unfold cut
    rw [h, index_hit _ _ hx, if_pos (by omega)]
    simp
  unfold cutA cutZ
  rw [e]
  exact ⟨dl_inj rfl, dl_inj rfl⟩
theorem cut_miss {s : ByteArray} {c : UInt8} (h : c ∉ dl s) : cutA s c = s ∧ cutZ s c = ⟨#[]⟩ := by
  have e : cut (dl s) [c] = (dl s, [], false) := by
    unfold cut
    rw [index_miss _ h, if_neg (by omega)]
  unfold cutA cutZ
  rw [e]
  exact ⟨dl_inj rfl, rfl⟩
theorem cut_len (s : ByteArray) (c : UInt8) : (cutA s c).size ≤ s.size ∧ (cutZ s c).size ≤ s.size := by
  by_cases h : c ∈ dl s
  · obtain ⟨x, y, hx, hy⟩ := List.append_of_mem h |> fun ⟨x, y, e⟩ => (⟨x, y, e, trivial⟩ : ∃ x y, dl s = x ++ c :: y ∧ True)
    have main : ∀ l : List UInt8, (cut l [c]).1.length ≤ l.length ∧ (cut l [c]).2.1.length ≤ l.length := by
      intro l
      unfold cut
      split <;> simp <;> omega
    have := main (dl s)
    have e1 : (cutA s c).size = (cut (dl s) [c]).1.length := by show (List.toArray _).size = _; simp
    have e2 : (cutZ s c).size = (cut (dl s) [c]).2.1.length := by show (List.toArray _).size = _; simp
    have e3 : s.size = (dl s).length := rfl
    omega
  · obtain ⟨a, b⟩ := cut_miss h
    rw [a, b]
    exact ⟨Nat.le_refl _, Nat.zero_le _⟩
theorem pieces_free (c : UInt8) : ∀ (l : List UInt8), ∀ x ∈ split l [c], c ∉ x
  | [], x, h => by
    rw [split_nil] at h
    have : x = [] := by simpa using h
    subst this
    simp
  | b :: l, x, h => by
    have ih := pieces_free c l
    by_cases hb : b = c
    · subst hb
      rw [split_eq] at h
      rcases List.mem_cons.1 h with h | h
      · subst h; simp
      · exact ih x h
    · rw [split_ne l hb] at h
      cases hs : split l [c] with
      | nil => exact absurd hs (split_ne_nil c l)
      | cons y r =>
        rw [hs] at h ih
        rcases List.mem_cons.1 h with h | h
        · subst h
          intro hm
          rcases List.mem_append.1 hm with hm | hm
          · have : c = b := by simpa using hm
            exact hb this.symm
          · exact ih y List.mem_cons_self hm
        · exact ih x (List.mem_cons_of_mem _ h)
theorem spl_one {s : ByteArray} {c : UInt8} (h : c ∉ dl s) : spl s c = [s] := dls_inj (by rw [spl_data, split_none _ h]; rfl)
theorem spl_two {s x y : ByteArray} {c : UInt8} (h : dl s = dl x ++ c :: dl y) (hx : c ∉ dl x) (hy : c ∉ dl y) : spl s c = [x, y] :=
  dls_inj (by rw [spl_data, h, split_app _ _ hx, split_none _ hy]; rfl)
theorem two_spl {s x y : ByteArray} {c : UInt8} (h : spl s c = [x, y]) : dl s = dl x ++ c :: dl y ∧ c ∉ dl x ∧ c ∉ dl y := by
  have e : split (dl s) [c] = [dl x, dl y] := by rw [← spl_data, h]; rfl
  have j := join_split c (dl s)
  rw [e, join_two, join_one] at j
  exact ⟨j.symm, pieces_free c (dl s) _ (by rw [e]; simp), pieces_free c (dl s) _ (by rw [e]; simp)⟩
/-! ### bends -/
theorem name_free {s : ByteArray} {c : UInt8} (h : nameB s = true) (hc : c.toNat < 48 ∨ (57 < c.toNat ∧ c.toNat < 97) ∨ 122 < c.toNat) : c ∉ dl s := by
  intro hm
  have h10 : s.size ≤ 10 := by
    rcases Nat.lt_or_ge 10 s.size with k | k
    · rw [nameB_long k] at h; cases h
    · exact k
  have h0 : 0 < s.size := by
    rcases Nat.eq_zero_or_pos s.size with k | k
    · rw [nameB_short k] at h; cases h
    · exact k
  rw [nameB_mid h0 h10] at h
  obtain ⟨k, hk, e⟩ := List.getElem_of_mem hm
  have hk' : k < s.size := hk
  have hb := byteI_get s k hk'
  have he : s[k] = c := e
  cases hu : upTo s (k + 1)
  · rw [upTo_false (k := k + 1) hu (by omega)] at h; cases h
  · have : (upTo s k && okAt k (byteI s k)) = true := hu
    rw [Bool.and_eq_true] at this
    have ok := this.2
    rw [← hb, he] at ok
    unfold okAt inB at ok
    simp at ok
    omega
/-- The list of a text. -/
def bend3 (l : List Int) : Int × Int × Int := (l.getD 0 0, l.getD 1 0, l.getD 2 0)
theorem three {l : List Int} (h : l.length = 3) : l = [(bend3 l).1, (bend3 l).2.1, (bend3 l).2.2] := by
  match l, h with
  | [a, b, c], _ => rfl
def bendQ (s : ByteArray) (r l c : Int) : ByteArray := (s ++ ⟨#[32]⟩) ++ listP [r, l, c]
def bendP (s : ByteArray) (r l c : Int) : ByteArray := if bendB s r l c = true then bendQ s r l c else ⟨#[]⟩
def rbN (t : ByteArray) : List Int := rdL (cutZ t 32)
def rbP (t : ByteArray) : ByteArray := bendP (cutA t 32) (bend3 (rbN t)).1 (bend3 (rbN t)).2.1 (bend3 (rbN t)).2.2
/-- Is a text a bend's, as the program sees it? -/
def rbB (t : ByteArray) : Bool := decide ((rbN t).length = 3) && decide (rbP t = t)
theorem bendQ_dl (s : ByteArray) (r l c : Int) : dl (bendQ s r l c) = dl s ++ 32 :: dl (listP [r, l, c]) := by
  unfold bendQ
  show ((s ++ ⟨#[32]⟩) ++ listP [r, l, c]).data.toList = _
  rw [ByteArray.data_append, ByteArray.data_append, Array.toList_append, Array.toList_append, List.append_assoc]
  rfl
theorem listP_free {l : List Int} (h : 0 < l.length) {c : UInt8} (hc : c.toNat < 44) : c ∉ dl (listP l) := by
  have e : dl (listP l) = join (l.map itoa) [44] := by unfold listP; rw [if_neg (by omega)]; rfl
  rw [e]
  have main : ∀ xs : List (List UInt8), (∀ x ∈ xs, c ∉ x) → c ∉ join xs [44] := by
    intro xs
    induction xs with
    | nil => intro _; simp [join_nil]
    | cons x r ih =>
      intro hx
      cases r with
      | nil => rw [join_one]; exact hx x List.mem_cons_self
      | cons y r =>
        rw [join_two]
        intro hm
        rcases List.mem_append.1 hm with hm | hm
        · exact hx x List.mem_cons_self hm
        · rcases List.mem_cons.1 hm with hm | hm
          · subst hm
            have : (44 : UInt8).toNat = 44 := rfl
            omega
          · exact ih (fun z hz => hx z (List.mem_cons_of_mem _ hz)) hm
  refine main _ fun x hx => ?_
  obtain ⟨n, _, rfl⟩ := List.mem_map.1 hx
  exact sep_itoa (.inl (by omega)) n
theorem rdL_yes {s : ByteArray} (h : 0 < (rdL s).length) : rdB s = true ∧ rdL s = nums (spl s 44) := by
  cases hr : rdB s
  · exfalso
    unfold rdL at h
    rw [hr] at h
    simp at h
  · exact ⟨rfl, by unfold rdL; rw [if_pos hr]⟩
theorem rb_yes {t : ByteArray} (h : rbB t = true) : spl t 32 = [cutA t 32, cutZ t 32] ∧ rdB (cutZ t 32) = true ∧ bendB (cutA t 32) (bend3 (rbN t)).1 (bend3 (rbN t)).2.1 (bend3 (rbN t)).2.2 = true := by
  unfold rbB at h
  rw [Bool.and_eq_true, decide_eq_true_eq, decide_eq_true_eq] at h
  obtain ⟨h3, ht⟩ := h
  obtain ⟨hr, _⟩ := rdL_yes (s := cutZ t 32) (by show 0 < (rbN t).length; omega)
  cases hb : bendB (cutA t 32) (bend3 (rbN t)).1 (bend3 (rbN t)).2.1 (bend3 (rbN t)).2.2
  · exfalso
    unfold rbP bendP at ht
    rw [hb] at ht
    have e : t = ⟨#[]⟩ := ht.symm
    subst e
    obtain ⟨_, b⟩ := cut_miss (s := ⟨#[]⟩) (c := 32) (by show ¬ (32 : UInt8) ∈ []; simp)
    rw [b] at hr
    revert hr
    have e2 : spl ⟨#[]⟩ 44 = [⟨#[]⟩] := spl_one (by show ¬ (44 : UInt8) ∈ []; simp)
    unfold rdB
    rw [e2]
    decide
  · refine ⟨?_, hr, rfl⟩
    unfold rbP bendP at ht
    rw [if_pos hb] at ht
    have hd := bendQ_dl (cutA t 32) (bend3 (rbN t)).1 (bend3 (rbN t)).2.1 (bend3 (rbN t)).2.2
    rw [ht] at hd
    have hn := name_free (c := 32) (bendB_iff.1 hb).1 (.inl (by decide))
    have hl : (32 : UInt8) ∉ dl (listP [(bend3 (rbN t)).1, (bend3 (rbN t)).2.1, (bend3 (rbN t)).2.2]) := listP_free (by simp) (by decide)
    have z := (cut_hit hd hn).2
    have := spl_two hd hn hl
    rw [← z] at this
    exact this
theorem rb_of {t a b : ByteArray} (h : spl t 32 = [a, b]) (hr : rdB b = true) (h3 : (rdL b).length = 3) (hb : bendB a (bend3 (rdL b)).1 (bend3 (rdL b)).2.1 (bend3 (rdL b)).2.2 = true) : rbB t = true ∧ cutA t 32 = a ∧ cutZ t 32 = b := by
  obtain ⟨hd, hx, hy⟩ := two_spl h
  obtain ⟨c1, c2⟩ := cut_hit hd hx
  refine ⟨?_, c1, c2⟩
  have hn : rbN t = rdL b := by unfold rbN; rw [c2]
  unfold rbB rbP
  rw [hn, c1, Bool.and_eq_true, decide_eq_true_eq, decide_eq_true_eq]
  refine ⟨h3, ?_⟩
  unfold bendP
  rw [if_pos hb]
  apply dl_inj
  rw [bendQ_dl, hd, ← three h3]
  obtain ⟨hf, hl⟩ := rd_yes hr
  have e : rdL b = nums (spl b 44) := by unfold rdL; rw [if_pos hr]
  rw [e]
  have e2 : listT (nums (spl b 44)) = listP (nums (spl b 44)) := by unfold listT; rw [if_pos hf]
  rw [← e2, hl]
end Go.Proofs.YtlknncmnphbpkaaGreatDoor.TxtX
