/- Plain facts for the law on tracks: heights of cut and joined tracks, bounds, first places. -/
import Derived.Test.YtcpppiafjlgimaaTrkJ
import Derived.Test.YtcpppiafjlgimaaTrkV
import Derived.Test.YtcpppiafjlgimaaTrkY0
import Derived.Test.YtcpppiafjlgimaaSrcT
namespace Go.Proofs.Ytcpppiafjlgimaa.TraP
set_option maxRecDepth 100000
open Go.RowKit Go.Proofs.Ytcpppiafjlgimaa.Plain Go.Proofs.Ytcpppiafjlgimaa.TrkP Go.Proofs.Ytcpppiafjlgimaa.TrkE Go.Proofs.Ytcpppiafjlgimaa.TrkF Go.Proofs.Ytcpppiafjlgimaa.TrkG Go.Proofs.Ytcpppiafjlgimaa.TrkH Go.Proofs.Ytcpppiafjlgimaa.TrkJ Go.Proofs.Ytcpppiafjlgimaa.TrkT Go.Proofs.Ytcpppiafjlgimaa.TrkV Go.Proofs.Ytcpppiafjlgimaa.SrcT

theorem sec_at {l : List (Int × Int)} {i : Nat} (h : i < l.length) : (secL l i, secG l i) = l[i] := by
  unfold secL secG
  rw [List.getD_eq_getElem?_getD, List.getElem?_eq_getElem h]
  rfl
theorem secL_low {l : List (Int × Int)} {s : Int × Int} {i : Nat} (h : i < l.length) : secL (l ++ [s]) i = secL l i ∧ secG (l ++ [s]) i = secG l i := by
  unfold secL secG
  rw [List.getD_eq_getElem?_getD, List.getD_eq_getElem?_getD, List.getElem?_append_left h]
  exact ⟨rfl, rfl⟩
theorem secL_end {l : List (Int × Int)} {s : Int × Int} : secL (l ++ [s]) l.length = s.1 ∧ secG (l ++ [s]) l.length = s.2 := by
  unfold secL secG
  simp [List.getD_eq_getElem?_getD]

/-- The rest of a way and the rise behind one more section. -/
def stepH (p : Int × Int) (s : Int × Int) : Int × Int := (p.1 - minI p.1 s.1, p.2 + minI p.1 s.1 * s.2)
def RH (l : List (Int × Int)) (y : Int) (k : Nat) : Int × Int := (remTo l y k, riseTo l y k)
theorem RH_succ (l : List (Int × Int)) (y : Int) (k : Nat) : RH l y (k + 1) = stepH (RH l y k) (secL l k, secG l k) := rfl
theorem RH_low {l : List (Int × Int)} {s : Int × Int} {y : Int} : ∀ k, k ≤ l.length → RH (l ++ [s]) y k = RH l y k ∧ lenTo (l ++ [s]) k = lenTo l k
  | 0, _ => ⟨rfl, rfl⟩
  | k + 1, hk => by
    obtain ⟨a, b⟩ := secL_low (s := s) (show k < l.length by omega)
    obtain ⟨c, d⟩ := RH_low (l := l) (s := s) (y := y) k (by omega)
    rw [RH_succ, RH_succ, c, a, b]
    refine ⟨rfl, ?_⟩
    show lenTo (l ++ [s]) k + secL (l ++ [s]) k = lenTo l k + secL l k
    rw [d, a]
theorem RH_end (l : List (Int × Int)) (s : Int × Int) (y : Int) : RH (l ++ [s]) y (l ++ [s]).length = stepH (RH l y l.length) s := by
  have e : (l ++ [s]).length = l.length + 1 := by simp
  obtain ⟨a, b⟩ := secL_end (l := l) (s := s)
  rw [e, RH_succ, (RH_low l.length (Nat.le_refl _)).1, a, b]
theorem lenAll_end (l : List (Int × Int)) (s : Int × Int) : lenAll (l ++ [s]) = lenAll l + s.1 := by
  have e : (l ++ [s]).length = l.length + 1 := by simp
  obtain ⟨a, b⟩ := secL_end (l := l) (s := s)
  unfold lenAll
  rw [e]
  show lenTo (l ++ [s]) l.length + secL (l ++ [s]) l.length = _
  rw [(RH_low (y := 0) l.length (Nat.le_refl _)).2, a]
theorem step_two (p : Int × Int) {a b g : Int} (hb : 0 ≤ b) : stepH (stepH p (a, g)) (b, g) = stepH p (a + b, g) := by
  have e : minI p.1 a + minI (p.1 - minI p.1 a) b = minI p.1 (a + b) := by
    unfold minI
    split <;> split <;> split <;> omega
  unfold stepH
  refine Prod.ext ?_ ?_
  · show p.1 - minI p.1 a - minI (p.1 - minI p.1 a) b = p.1 - minI p.1 (a + b)
    omega
  · show p.2 + minI p.1 a * g + minI (p.1 - minI p.1 a) b * g = p.2 + minI p.1 (a + b) * g
    rw [← e, Int.add_mul]
    omega

/-! ### cut -/
theorem cut_all (l : List (Int × Int)) (x y : Int) : ∀ k, RH (cutTo l x k) y (cutTo l x k).length = RH l y k ∧ lenAll (cutTo l x k) = lenTo l k
  | 0 => ⟨rfl, rfl⟩
  | k + 1 => by
    obtain ⟨a, b⟩ := cut_all l x y k
    by_cases h : 0 < x - lenTo l k ∧ x - lenTo l k < secL l k
    · rw [cut_yes h.1 h.2]
      have e : cutTo l x k ++ [(x - lenTo l k, secG l k), (secL l k - (x - lenTo l k), secG l k)] = (cutTo l x k ++ [(x - lenTo l k, secG l k)]) ++ [(secL l k - (x - lenTo l k), secG l k)] := by simp
      rw [e, RH_end, RH_end, lenAll_end, lenAll_end, a, b, step_two _ (by omega), RH_succ]
      refine ⟨by rw [show x - lenTo l k + (secL l k - (x - lenTo l k)) = secL l k by omega], ?_⟩
      show lenTo l k + (x - lenTo l k) + (secL l k - (x - lenTo l k)) = lenTo l k + secL l k
      omega
    · rw [cut_no h, RH_end, lenAll_end, a, b]
      exact ⟨rfl, rfl⟩
theorem cut_count {l : List (Int × Int)} {x : Int} : ∀ k, (∀ j, j < k → 0 ≤ secL l j) → k ≤ (cutTo l x k).length ∧ (cutTo l x k).length ≤ k + 1 ∧ (lenTo l k ≤ x → (cutTo l x k).length = k)
  | 0, _ => ⟨Nat.le_refl _, by simp [cutTo], fun _ => rfl⟩
  | k + 1, hp => by
    obtain ⟨a, b, c⟩ := cut_count (l := l) (x := x) k (fun j hj => hp j (by omega))
    have h0 := hp k (by omega)
    have e : lenTo l (k + 1) = lenTo l k + secL l k := rfl
    by_cases h : 0 < x - lenTo l k ∧ x - lenTo l k < secL l k
    · have := c (by omega)
      rw [cut_yes h.1 h.2]
      simp only [List.length_append, List.length_cons, List.length_nil]
      refine ⟨by omega, by omega, fun h2 => by omega⟩
    · rw [cut_no h]
      simp only [List.length_append, List.length_cons, List.length_nil]
      refine ⟨by omega, ?_, fun h2 => by have := c (by omega); omega⟩
      omega
def InS (M : Int) (l : List (Int × Int)) : Prop := ∀ s ∈ l, 1 ≤ s.1 ∧ s.1 ≤ M ∧ 0 ≤ s.2 ∧ s.2 ≤ 900
theorem InS.snoc {M : Int} {l : List (Int × Int)} {s : Int × Int} (h : InS M l) (hs : 1 ≤ s.1 ∧ s.1 ≤ M ∧ 0 ≤ s.2 ∧ s.2 ≤ 900) : InS M (l ++ [s]) := fun t ht => by
  rcases List.mem_append.1 ht with h1 | h1
  · exact h t h1
  · rw [List.mem_singleton.1 h1]
    exact hs
theorem InS.at {M : Int} {l : List (Int × Int)} (h : InS M l) {i : Nat} (hi : i < l.length) : 1 ≤ secL l i ∧ secL l i ≤ M ∧ 0 ≤ secG l i ∧ secG l i ≤ 900 := by
  have a := h _ (List.getElem_mem hi)
  rw [← sec_at hi] at a
  exact a
theorem InS.more {M M' : Int} {l : List (Int × Int)} (h : InS M l) (hM : M ≤ M') : InS M' l := fun s hs => by
  have := h s hs
  omega
theorem InS.good {l : List (Int × Int)} (h : InS 3000000 l) (hl : l.length ≤ 12) : GoodL l := ⟨hl, fun _ hi => h.at hi⟩
theorem cut_in {l : List (Int × Int)} {x M : Int} : ∀ k, k ≤ l.length → InS M l → InS M (cutTo l x k)
  | 0, _, _ => fun s hs => by cases hs
  | k + 1, hk, hp => by
    have ih := cut_in (l := l) (x := x) (M := M) k (by omega) hp
    have a := hp.at (i := k) (by omega)
    by_cases h : 0 < x - lenTo l k ∧ x - lenTo l k < secL l k
    · rw [cut_yes h.1 h.2]
      have e : cutTo l x k ++ [(x - lenTo l k, secG l k), (secL l k - (x - lenTo l k), secG l k)] = (cutTo l x k ++ [(x - lenTo l k, secG l k)]) ++ [(secL l k - (x - lenTo l k), secG l k)] := by simp
      rw [e]
      exact InS.snoc (s := (secL l k - (x - lenTo l k), secG l k)) (InS.snoc (s := (x - lenTo l k, secG l k)) ih ⟨by show 1 ≤ x - lenTo l k; omega, by show x - lenTo l k ≤ M; omega, a.2.2⟩) ⟨by show 1 ≤ secL l k - (x - lenTo l k); omega, by show secL l k - (x - lenTo l k) ≤ M; omega, a.2.2⟩
    · rw [cut_no h]
      exact ih.snoc a

/-! ### joined -/
theorem set_last {l : List (Int × Int)} {t u : Int × Int} : (l ++ [t]).set ((l ++ [t]).length - 1) u = l ++ [u] := by
  simp
theorem add_cases (acc : List (Int × Int)) (s : Int × Int) : (joinAdd acc s = acc ++ [s] ∧ (0 < acc.length → secG acc (acc.length - 1) ≠ s.2)) ∨ ∃ i a, acc = i ++ [(a, s.2)] ∧ joinAdd acc s = i ++ [(a + s.1, s.2)] := by
  unfold joinAdd
  by_cases h : 0 < acc.length ∧ secG acc (acc.length - 1) = s.2
  · right
    rw [if_pos h]
    rcases List.eq_nil_or_concat acc with h0 | ⟨i, t, ht⟩
    · rw [h0] at h
      exact absurd h.1 (by simp)
    · rw [List.concat_eq_append] at ht
      subst ht
      have e1 : (i ++ [t]).length - 1 = i.length := by simp
      obtain ⟨a, b⟩ := secL_end (l := i) (s := t)
      rw [set_last, e1, a, b]
      rw [e1, b] at h
      refine ⟨i, t.1, by rw [← h.2], by rw [h.2]⟩
  · rw [if_neg h]
    exact .inl ⟨rfl, fun h0 h1 => h ⟨h0, h1⟩⟩
theorem join_all {l : List (Int × Int)} {y : Int} : ∀ k, k ≤ l.length → InS 3000000 l → RH (joinTo l k) y (joinTo l k).length = RH l y k ∧ lenAll (joinTo l k) = lenTo l k ∧ InS (lenTo l k) (joinTo l k)
  | 0, _, _ => ⟨rfl, rfl, fun s hs => by cases hs⟩
  | k + 1, hk, hp => by
    obtain ⟨a, b, c⟩ := join_all (l := l) (y := y) k (by omega) hp
    have q := hp.at (i := k) (by omega)
    have e : lenTo l (k + 1) = lenTo l k + secL l k := rfl
    have hj : joinTo l (k + 1) = joinAdd (joinTo l k) (secL l k, secG l k) := rfl
    have h0 : 0 ≤ lenTo l k := by
      rw [← b]
      have : ∀ m : List (Int × Int), InS (lenTo l k) m → 0 ≤ lenAll m := fun m hm => by
        have : ∀ j, j ≤ m.length → 0 ≤ lenTo m j := by
          intro j
          induction j with
          | zero => intro _; exact Int.le_refl _
          | succ j ih =>
            intro hj
            have := ih (by omega)
            have := hm.at (i := j) (by omega)
            show 0 ≤ lenTo m j + secL m j
            omega
        exact this _ (Nat.le_refl _)
      exact this _ c
    rw [hj, RH_succ]
    rcases add_cases (joinTo l k) (secL l k, secG l k) with ⟨h1, _⟩ | ⟨i, u, h1, h2⟩
    · rw [h1, RH_end, lenAll_end, a, b]
      refine ⟨rfl, rfl, (c.more (by omega)).snoc ⟨q.1, ?_, q.2.2⟩⟩
      show secL l k ≤ lenTo l (k + 1)
      omega
    · rw [h2, RH_end, lenAll_end]
      rw [h1] at a b c
      rw [RH_end] at a
      rw [lenAll_end] at b
      have cu := c (u, secG l k) (by simp)
      have ci : InS (lenTo l k) i := fun s hs => c s (by simp [hs])
      refine ⟨by rw [← a, step_two _ (by omega)], ?_, (ci.more (by omega)).snoc ⟨?_, ?_, q.2.2⟩⟩
      · show lenAll i + (u + secL l k) = lenTo l k + secL l k
        have : lenAll i + u = lenTo l k := b
        omega
      · show 1 ≤ u + secL l k
        omega
      · show u + secL l k ≤ lenTo l (k + 1)
        have : u ≤ lenTo l k := cu.2.1
        omega
def Apart (l : List (Int × Int)) : Prop := ∀ i, i + 1 < l.length → secG l (i + 1) ≠ secG l i
theorem apart_snoc {l : List (Int × Int)} {s : Int × Int} (h : Apart l) (hs : 0 < l.length → secG l (l.length - 1) ≠ s.2) : Apart (l ++ [s]) := fun i hi => by
  rw [List.length_append, List.length_singleton] at hi
  by_cases h1 : i + 1 < l.length
  · rw [(secL_low h1).2, (secL_low (show i < l.length by omega)).2]
    exact h i h1
  · have e : i + 1 = l.length := by omega
    rw [(secL_low (show i < l.length by omega)).2, e, secL_end.2]
    have := hs (by omega)
    rw [show l.length - 1 = i by omega] at this
    exact this.symm
theorem join_apart (l : List (Int × Int)) : ∀ k, Apart (joinTo l k)
  | 0 => fun i hi => by simp [joinTo] at hi
  | k + 1 => by
    have ih := join_apart l k
    have hj : joinTo l (k + 1) = joinAdd (joinTo l k) (secL l k, secG l k) := rfl
    rw [hj]
    rcases add_cases (joinTo l k) (secL l k, secG l k) with ⟨h1, h2⟩ | ⟨i, u, h1, h2⟩
    · rw [h1]
      exact apart_snoc ih h2
    · rw [h2]
      rw [h1] at ih
      intro j hj
      have e : ∀ t : Int, secG (i ++ [(t, secG l k)]) = secG (i ++ [(u, secG l k)]) := fun t => by
        funext m
        by_cases hm : m < i.length
        · rw [(secL_low hm).2, (secL_low hm).2]
        · by_cases hm2 : m = i.length
          · subst hm2
            rw [secL_end.2, secL_end.2]
          · have a1 : (i ++ [(t, secG l k)]).length ≤ m := by rw [List.length_append, List.length_singleton]; omega
            have a2 : (i ++ [(u, secG l k)]).length ≤ m := by rw [List.length_append, List.length_singleton]; omega
            show ((i ++ [(t, secG l k)]).getD m (0, 0)).2 = ((i ++ [(u, secG l k)]).getD m (0, 0)).2
            rw [List.getD_eq_getElem?_getD, List.getD_eq_getElem?_getD, List.getElem?_eq_none a1, List.getElem?_eq_none a2]
      have e2 := e (u + (secL l k))
      show secG (i ++ [(u + secL l k, secG l k)]) (j + 1) ≠ secG (i ++ [(u + secL l k, secG l k)]) j
      rw [e2]
      exact ih j (by simpa using hj)

/-! ### heights -/
theorem GoodD.ins {l : List (Int × Int)} (h : GoodD l) : InS 3000000 l := fun s hs => by
  obtain ⟨i, hi, rfl⟩ := List.getElem_of_mem hs
  have a := h.2 i hi
  have e := sec_at hi
  rw [← e]
  show 1 ≤ secL l i ∧ secL l i ≤ 3000000 ∧ 0 ≤ secG l i ∧ secG l i ≤ 900
  omega
theorem rise_le {l : List (Int × Int)} (hg : GoodL l) {x : Int} (hx : 0 ≤ x) : ∀ k, k ≤ l.length → riseTo l x k ≤ 900 * lenTo l k
  | 0, _ => by simp [riseTo, lenTo]
  | k + 1, hk => by
    have ih := rise_le hg hx k (by omega)
    obtain ⟨g1, g2, g3, g4⟩ := hg.2 k (by omega)
    obtain ⟨p1, _⟩ := part_bd hg hx k (by omega)
    have m := minI_le (a := remTo l x k) (b := secL l k)
    have a := Int.mul_le_mul m.2.1 g4 g3 (by omega)
    simp only [riseTo, lenTo]
    omega
theorem height_le {l : List (Int × Int)} (hg : GoodL l) {x : Int} (hx : 0 ≤ x) (hN : lenAll l ≤ 1095000) : hAt l x ≤ 985500 := by
  have := rise_le hg hx l.length (Nat.le_refl _)
  unfold hAt
  unfold lenAll at hN
  omega
theorem height_zero {l : List (Int × Int)} (hg : GoodL l) : hAt l 0 = 0 := by
  have : ∀ k, k ≤ l.length → riseTo l 0 k = 0 := by
    intro k
    induction k with
    | zero => intro _; rfl
    | succ k ih =>
      intro hk
      have a := ih (by omega)
      have b := remTo_bd hg (Int.le_refl 0) k (by omega)
      have e : remTo l 0 k = 0 := by omega
      have g := (hg.2 k (by omega)).1
      simp only [riseTo, a, e]
      rw [show minI 0 (secL l k) = 0 by unfold minI; split <;> omega, Int.zero_mul]
      rfl
  unfold hAt
  rw [this _ (Nat.le_refl _)]
  rfl
theorem cut_height (l : List (Int × Int)) (x y : Int) : hAt (cutTo l x l.length) y = hAt l y := by
  have := (cut_all l x y l.length).1
  unfold hAt
  exact congrArg (fun p : Int × Int => p.2 / 1000) this
theorem join_height {l : List (Int × Int)} (h : InS 3000000 l) (y : Int) : hAt (joinTo l l.length) y = hAt l y := by
  have := (join_all (y := y) l.length (Nat.le_refl _) h).1
  unfold hAt
  exact congrArg (fun p : Int × Int => p.2 / 1000) this
theorem place_facts {l : List (Int × Int)} (hg : GoodL l) {m : Int} (hm : 0 ≤ m ∧ m ≤ lenAll l) : 0 ≤ plcR l (hAt l m) ∧ plcR l (hAt l m) ≤ m ∧ hAt l m ≤ hAt l (plcR l (hAt l m)) ∧ (0 < plcR l (hAt l m) → hAt l (plcR l (hAt l m) - 1) < hAt l m) := by
  have t := plcR_is hg (hAt l m)
  have f : ∀ x, plcP l (hAt l m) x = false → hAt l x < hAt l m := fun x h => Int.not_le.1 (of_decide_eq_false h)
  have hR : plcR l (hAt l m) ≤ m := by
    rcases Int.lt_or_le m (plcR l (hAt l m)) with h | h
    · exfalso
      have a := f _ (t.2.2.1 (by omega))
      have b := hAt_mono hg (show m ≤ plcR l (hAt l m) - 1 by omega)
      omega
    · exact h
  exact ⟨t.1, hR, of_decide_eq_true (t.2.2.2 (by omega)), fun h => f _ (t.2.2.1 h)⟩
theorem rev_at {l : List (Int × Int)} {q : Nat} (h : q < l.length) : secL l.reverse q = secL l (l.length - 1 - q) ∧ secG l.reverse q = secG l (l.length - 1 - q) := by
  unfold secL secG
  rw [List.getD_eq_getElem?_getD, List.getD_eq_getElem?_getD, List.getElem?_reverse h]
  exact ⟨rfl, rfl⟩
end Go.Proofs.Ytcpppiafjlgimaa.TraP
