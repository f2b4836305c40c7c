/- Plain laws on texts of tracks, written and read. -/
import Derived.Test.YtomkldkmaabbnaaDoorTxtX
import Derived.Test.YtomkldkmaabbnaaDoorTrkP
namespace Go.Proofs.YtomkldkmaabbnaaDoor.TxtK
open Go Go.Lib Go.Proofs.YtomkldkmaabbnaaDoor.Plain Go.Proofs.YtomkldkmaabbnaaDoor.TrkP Go.Proofs.YtomkldkmaabbnaaDoor.TxtA Go.Proofs.YtomkldkmaabbnaaDoor.TxtG Go.Proofs.YtomkldkmaabbnaaDoor.TxtN Go.Proofs.YtomkldkmaabbnaaDoor.TxtS Go.Proofs.YtomkldkmaabbnaaDoor.TxtQ Go.Proofs.YtomkldkmaabbnaaDoor.TxtX

/-- Two numbers with a mark between them. -/
def pairW (c : UInt8) (a b : Int) : ByteArray := (dec a ++ ⟨#[c]⟩) ++ dec b
def loopW : ByteArray := ⟨#[108, 111, 111, 112]⟩
def headW (lf lu : Int) : ByteArray := ((⟨#[108, 111, 111, 112, 32]⟩ ++ dec lf) ++ ⟨#[44]⟩) ++ dec lu
def secW (l : List (Int × Int)) (k : Nat) : ByteArray := ((⟨#[32]⟩ ++ dec (secL l k)) ++ ⟨#[64]⟩) ++ dec (secG l k)
/-- The reference's text, section by section. -/
def tkTo (l : List (Int × Int)) (lf lu : Int) : Nat → ByteArray
  | 0 => headW lf lu
  | k + 1 => tkTo l lf lu k ++ secW l k
def trackQ (l : List (Int × Int)) (lf lu : Int) : ByteArray := tkTo l lf lu l.length
def trackP (l : List (Int × Int)) (lf lu : Int) : ByteArray := if trackB l lf lu = true then trackQ l lf lu else ⟨#[]⟩
theorem dl_app (a b : ByteArray) : dl (a ++ b) = dl a ++ dl b := by
  show (a ++ b).data.toList = _
  rw [ByteArray.data_append, Array.toList_append]
  rfl
theorem dl_dec (n : Int) : dl (dec n) = itoa n := rfl
theorem dl_pair (c : UInt8) (a b : Int) : dl (pairW c a b) = itoa a ++ c :: itoa b := by
  unfold pairW
  rw [dl_app, dl_app, dl_dec, dl_dec, List.append_assoc]
  rfl
/-- The words between blanks. -/
def pairs (l : List (Int × Int)) (k : Nat) : List (List UInt8) := (List.range k).map fun i => dl (pairW 64 (secL l i) (secG l i))
theorem pairs_succ (l : List (Int × Int)) (k : Nat) : pairs l (k + 1) = pairs l k ++ [dl (pairW 64 (secL l k) (secG l k))] := by
  unfold pairs
  rw [List.range_succ, List.map_append, List.map_singleton]
theorem tkTo_dl (l : List (Int × Int)) (lf lu : Int) : ∀ k, dl (tkTo l lf lu k) = join (dl loopW :: dl (pairW 44 lf lu) :: pairs l k) [32]
  | 0 => by
    show dl (headW lf lu) = join [dl loopW, dl (pairW 44 lf lu)] [32]
    rw [join_two, join_one, dl_pair]
    unfold headW
    rw [dl_app, dl_app, dl_app, dl_dec, dl_dec, List.append_assoc, List.append_assoc]
    try rfl
  | k + 1 => by
    show dl (tkTo l lf lu k ++ secW l k) = _
    rw [dl_app, tkTo_dl l lf lu k, pairs_succ]
    have e := join_snoc [32] (dl loopW) (dl (pairW 44 lf lu) :: pairs l k) (dl (pairW 64 (secL l k) (secG l k)))
    rw [List.cons_append, List.cons_append] at e
    rw [e, dl_pair]
    congr 1
theorem pair_free {c d : UInt8} {a b : Int} (hc : c.toNat < 45 ∨ c.toNat = 46 ∨ c.toNat = 47 ∨ 57 < c.toNat) (h : c ≠ d) : c ∉ dl (pairW d a b) := by
  rw [dl_pair]
  intro hm
  rcases List.mem_append.1 hm with hm | hm
  · exact sep_itoa hc a hm
  · rcases List.mem_cons.1 hm with hm | hm
    · exact h hm
    · exact sep_itoa hc b hm
theorem track_split (l : List (Int × Int)) (lf lu : Int) : spl (trackQ l lf lu) 32 = loopW :: pairW 44 lf lu :: (List.range l.length).map fun i => pairW 64 (secL l i) (secG l i) := by
  apply dls_inj
  rw [spl_data]
  unfold trackQ
  rw [tkTo_dl, split_join _ (by simp) ?_]
  · rw [List.map_cons, List.map_cons, List.map_map]
    rfl
  · intro x hx
    rcases List.mem_cons.1 hx with hx | hx
    · subst hx; decide
    · rcases List.mem_cons.1 hx with hx | hx
      · subst hx; exact pair_free (.inl (by decide)) (by decide)
      · obtain ⟨i, _, rfl⟩ := List.mem_map.1 hx
        exact pair_free (.inl (by decide)) (by decide)
/-! ### two numbers with a mark between them -/
def twoB (x : ByteArray) (c : UInt8) : Bool := decide ((spl x c).length = 2) && ((numP (dl (cutA x c))).2 && (numP (dl (cutZ x c))).2)
theorem two_parts {x : ByteArray} {c : UInt8} (h : (spl x c).length = 2) : spl x c = [cutA x c, cutZ x c] := by
  match hs : spl x c, h with
  | [p, q], _ =>
    obtain ⟨hd, hx, hy⟩ := two_spl hs
    obtain ⟨c1, c2⟩ := cut_hit hd hx
    rw [c1, c2]
theorem numP_itoa2 {p : ByteArray} (h : (numP (dl p)).2 = true) : itoa (num p) = dl p := by
  unfold num
  rcases numP_cases (dl p) with ⟨n, hn, hi, _⟩ | h'
  · rw [hn]; exact hi
  · rw [h'] at h; cases h
theorem two_pair {x : ByteArray} {c : UInt8} (h : twoB x c = true) : x = pairW c (num (cutA x c)) (num (cutZ x c)) := by
  unfold twoB at h
  rw [Bool.and_eq_true, Bool.and_eq_true, decide_eq_true_eq] at h
  obtain ⟨h1, h2, h3⟩ := h
  obtain ⟨hd, _, _⟩ := two_spl (two_parts h1)
  apply dl_inj
  rw [dl_pair, numP_itoa2 h2, numP_itoa2 h3]
  exact hd
theorem pair_two {c : UInt8} {a b : Int} (hc : c.toNat < 45 ∨ c.toNat = 46 ∨ c.toNat = 47 ∨ 57 < c.toNat) (ha : -1000000000000000000 < a ∧ a < 1000000000000000000) (hb : -1000000000000000000 < b ∧ b < 1000000000000000000) :
    twoB (pairW c a b) c = true ∧ num (cutA (pairW c a b) c) = a ∧ num (cutZ (pairW c a b) c) = b := by
  have hs := spl_two (s := pairW c a b) (x := dec a) (y := dec b) (c := c) (dl_pair c a b) (sep_itoa hc a) (sep_itoa hc b)
  obtain ⟨c1, c2⟩ := cut_hit (s := pairW c a b) (x := dec a) (y := dec b) (c := c) (dl_pair c a b) (sep_itoa hc a)
  have n1 := numP_itoa a ha.1 ha.2
  have n2 := numP_itoa b hb.1 hb.2
  unfold twoB num
  rw [c1, c2, hs, dl_dec, dl_dec, n1, n2]
  exact ⟨rfl, rfl, rfl⟩
/-! ### tracks read -/
def secOfW (x : ByteArray) : Int × Int := (num (cutA x 64), num (cutZ x 64))
def rtL (s : ByteArray) : List (Int × Int) := ((spl s 32).drop 2).map secOfW
def w1 (s : ByteArray) : ByteArray := (spl s 32).getD 1 ⟨#[]⟩
def w0 (s : ByteArray) : ByteArray := (spl s 32).getD 0 ⟨#[]⟩
def rtF (s : ByteArray) : Int := num (cutA (w1 s) 44)
def rtU (s : ByteArray) : Int := num (cutZ (w1 s) 44)
/-- As the program tells it. -/
def rtB (s : ByteArray) : Bool := decide (3 ≤ (spl s 32).length) && (trackB (rtL s) (rtF s) (rtU s) && decide (trackQ (rtL s) (rtF s) (rtU s) = s))
/-- As the reference tells it. -/
def rsB (s : ByteArray) : Bool := decide (3 ≤ (spl s 32).length) && (decide (w0 s = loopW) && (twoB (w1 s) 44 && (((spl s 32).drop 2).all (fun x => twoB x 64) && trackB (rtL s) (rtF s) (rtU s))))
theorem shape3 {s : ByteArray} (h : 3 ≤ (spl s 32).length) : spl s 32 = w0 s :: w1 s :: (spl s 32).drop 2 := by
  unfold w0 w1
  match spl s 32, h with
  | a :: b :: r, _ => rfl
theorem map_range {α : Type} (l : List α) (d : α) {β : Type} (f : α → β) : (List.range l.length).map (fun i => f (l.getD i d)) = l.map f := by
  apply List.ext_getElem?
  intro j
  by_cases hj : j < l.length
  · rw [List.getElem?_map, List.getElem?_map, List.getElem?_range hj, List.getElem?_eq_getElem hj]
    simp [List.getD_eq_getElem?_getD, List.getElem?_eq_getElem hj]
  · rw [List.getElem?_eq_none (by simpa using hj), List.getElem?_eq_none (by simpa using hj)]
theorem pairs_map (l : List (Int × Int)) : ((List.range l.length).map fun i => pairW 64 (secL l i) (secG l i)) = l.map fun q => pairW 64 q.1 q.2 :=
  map_range l (0, 0) (fun q => pairW 64 q.1 q.2)
theorem rt_same (s : ByteArray) : rsB s = rtB s := by
  rw [Bool.eq_iff_iff]
  unfold rsB rtB
  simp only [Bool.and_eq_true, decide_eq_true_eq]
  constructor
  · rintro ⟨h3, h0, h1, h2, hv⟩
    refine ⟨h3, hv, ?_⟩
    apply dl_inj
    have e := spl_data s 32
    have t := track_split (rtL s) (rtF s) (rtU s)
    have e2 : spl (trackQ (rtL s) (rtF s) (rtU s)) 32 = spl s 32 := by
      rw [t, shape3 h3, h0, pairs_map]
      congr 1
      congr 1
      · exact (two_pair h1).symm
      · unfold rtL
        rw [List.map_map]
        have := List.map_congr_left (l := (spl s 32).drop 2) (f := (fun q : Int × Int => pairW 64 q.1 q.2) ∘ secOfW) (g := id) (fun x hx => (two_pair (List.all_eq_true.1 h2 x hx)).symm)
        rw [this, List.map_id]
    rw [← join_split 32 (dl s), ← join_split 32 (dl (trackQ _ _ _)), ← spl_data, ← spl_data, e2]
  · rintro ⟨h3, hv, hq⟩
    have t := track_split (rtL s) (rtF s) (rtU s)
    have val := trackB_iff.1 hv
    rw [hq] at t
    have hg := val.good
    have hb := lenAll_bds hg
    have hf := val.from_
    have hu := val.until_
    have sh := shape3 h3
    obtain ⟨rest, hrest⟩ : ∃ r, r = (spl s 32).drop 2 := ⟨_, rfl⟩
    rw [← hrest] at sh ⊢
    rw [t] at sh
    injection sh with s0 s1
    injection s1 with s1 s2
    have p1 := pair_two (c := 44) (a := rtF s) (b := rtU s) (.inl (by decide)) (by omega) (by omega)
    rw [s1] at p1
    refine ⟨h3, s0.symm, p1.1, ?_, hv⟩
    rw [List.all_eq_true]
    intro x hx
    rw [← s2] at hx
    obtain ⟨i, hi, rfl⟩ := List.mem_map.1 hx
    have hi' := List.mem_range.1 hi
    have hz := hg.2 i hi'
    exact (pair_two (c := 64) (.inr (.inr (.inr (by decide)))) (by omega) (by omega)).1
end Go.Proofs.YtomkldkmaabbnaaDoor.TxtK
