/- Sections of the same grade made one: the program's walk and the reference's. -/
import Derived.Test.YtomkldkmaabbnaaDoorTrkS
import Derived.Outline
import Derived.RegionTactic
import Derived.ChangeAlike
import Derived.BigQuiet
import Derived.Deep.QuietTactic
namespace Go.Proofs.YtomkldkmaabbnaaDoor.TrkT
open Go.RowKit Go.Proofs.YtomkldkmaabbnaaDoor.Plain Go.Proofs.YtomkldkmaabbnaaDoor.TrkP Go.Proofs.YtomkldkmaabbnaaDoor.WalkA Go.Proofs.YtomkldkmaabbnaaDoor.TrkA Go.Proofs.YtomkldkmaabbnaaDoor.TrkB Go.Proofs.YtomkldkmaabbnaaDoor.TrkC Go.Proofs.YtomkldkmaabbnaaDoor.TrkD Go.Proofs.YtomkldkmaabbnaaDoor.TrkE Go.Proofs.YtomkldkmaabbnaaDoor.TrkR Go.Proofs.YtomkldkmaabbnaaDoor.TrkS

theorem secL_set (l : List (Int × Int)) (i j : Nat) (p : Int × Int) (hi : i < l.length) : secL (l.set i p) j = if j = i then p.1 else secL l j := by
  unfold secL
  rw [List.getD_eq_getElem?_getD, List.getD_eq_getElem?_getD, List.getElem?_set]
  by_cases h : j = i
  · subst h; simp [hi]
  · rw [if_neg (fun e => h e.symm), if_neg h]
theorem secL_append (l : List (Int × Int)) (p : Int × Int) (j : Nat) : secL (l ++ [p]) j = if j < l.length then secL l j else if j = l.length then p.1 else 0 := by
  unfold secL
  rw [List.getD_eq_getElem?_getD, List.getD_eq_getElem?_getD, List.getElem?_append]
  by_cases h : j < l.length
  · rw [if_pos h, if_pos h]
  · rw [if_neg h, if_neg h]
    by_cases e : j = l.length
    · subst e; simp
    · rw [if_neg e, List.getElem?_eq_none (by simp; omega)]; rfl
theorem flat_set : ∀ (l : List (Int × Int)) (i : Nat) (a : Int), i < l.length → flat (l.set i (a, secG l i)) = (flat l).set (i * 2) (.int .i64 a)
  | [], i, a, h => by simp at h
  | p :: l, 0, a, _ => rfl
  | p :: l, i + 1, a, h => by
    have ih := flat_set l i a (by simpa using h)
    have e : (i + 1) * 2 = i * 2 + 1 + 1 := by omega
    have f : secG (p :: l) (i + 1) = secG l i := rfl
    rw [f, e]
    show Value.int .i64 p.1 :: .int .i64 p.2 :: flat (l.set i (a, secG l i)) = _
    rw [ih]
    rfl
def joinAdd (acc : List (Int × Int)) (s : Int × Int) : List (Int × Int) :=
  if 0 < acc.length ∧ secG acc (acc.length - 1) = s.2 then acc.set (acc.length - 1) (secL acc (acc.length - 1) + s.1, secG acc (acc.length - 1)) else acc ++ [s]
def joinTo (l : List (Int × Int)) : Nat → List (Int × Int)
  | 0 => []
  | k + 1 => joinAdd (joinTo l k) (secL l k, secG l k)
theorem joinTo_len (l : List (Int × Int)) (k : Nat) : (joinTo l k).length ≤ k := by
  induction k with
  | zero => exact Nat.le_refl _
  | succ k ih =>
    show (joinAdd (joinTo l k) (secL l k, secG l k)).length ≤ k + 1
    unfold joinAdd
    split
    · simp; omega
    · simp; omega
theorem joinTo_bd {l : List (Int × Int)} (h : GoodL l) (k : Nat) (hk : k ≤ l.length) : ∀ i, i < (joinTo l k).length → 0 ≤ secL (joinTo l k) i ∧ secL (joinTo l k) i ≤ lenTo l k := by
  induction k with
  | zero => intro i hi; exact absurd hi (by simp [joinTo])
  | succ k ih =>
    have e : lenTo l (k + 1) = lenTo l k + secL l k := rfl
    have g := (h.2 k (by omega)).1
    have b := (lenTo_bds h k (by omega)).1
    intro i hi
    have hj : joinTo l (k + 1) = joinAdd (joinTo l k) (secL l k, secG l k) := rfl
    rw [hj] at hi ⊢
    unfold joinAdd at hi ⊢
    by_cases hc : 0 < (joinTo l k).length ∧ secG (joinTo l k) ((joinTo l k).length - 1) = secG l k
    · rw [if_pos hc] at hi ⊢
      rw [secL_set _ _ _ _ (by omega)]
      have q := ih (by omega) ((joinTo l k).length - 1) (by omega)
      split
      · simp only; omega
      · have q2 := ih (by omega) i (by simpa using hi); omega
    · rw [if_neg hc] at hi ⊢
      rw [secL_append]
      split
      · rename_i hlt; have q2 := ih (by omega) i hlt; omega
      · split
        · simp only; omega
        · omega
/-- A struct of the call's own that holds a track whose sections it has made itself: in block p, the sections behind it. -/
def Out (W : World) (p : Nat) (v : Value) (lf lu : Int) (acc : List (Int × Int)) : Prop :=
  RowAt W p 24 #[v, .int .i64 lf, .int .i64 lu] ∧ W.ownsRow (p + 1) 35 2 v acc.length (flat acc) ∧ (acc.length = 0 → v = .slice none 0 0)
theorem Out.form {W : World} {p : Nat} {v : Value} {lf lu : Int} {acc : List (Int × Int)} (h : Out W p v lf lu acc) (h0 : 0 < acc.length) : ∃ g cap, v = .slice (some ⟨g, 0, none⟩) acc.length cap ∧ p + 1 ≤ g ∧ g < W.heap.size := h.2.1.form h0
theorem grown_up {w w' : World} {r : Option Nat} {B : Nat} (h : w.grownBy w' r) (hr : ∀ k, r = some k → B ≤ k) (hB : B ≤ w.heap.size) : Below B w w' :=
  ⟨h.os, h.tape, h.output, h.size, fun k hk => h.block k (by omega) (fun e => by have := hr k e.symm; omega)⟩
theorem Out.lt {W : World} {p : Nat} {v : Value} {lf lu : Int} {acc : List (Int × Int)} (h : Out W p v lf lu acc) : p < W.heap.size := h.1.lt
/-- Sections appended: the world behind the append, and behind the store of the new slice. -/
theorem Out.append {W W2 w1 : World} {p : Nat} {v v' : Value} {lf lu : Int} {acc more : List (Int × Int)} (h : Out W p v lf lu acc) (hm : 0 < more.length) (hW : Below (p + 1) W W2) (hsz : p + 1 ≤ W2.heap.size) (hv : ∀ k, v.ownBlock = some k → p + 1 ≤ k) (hg : W2.grownBy w1 v.ownBlock) (hown : w1.ownsRow (p + 1) 35 2 v' (acc.length + more.length) (flat acc ++ flat more)) :
    (RowAt w1 p 24 #[v, .int .i64 lf, .int .i64 lu] ∧ Below (p + 1) W w1) ∧ Out (w1.setCell ⟨p, 0, none⟩ v') p v' lf lu (acc ++ more) ∧ Below p W (w1.setCell ⟨p, 0, none⟩ v') := by
  have b1 := grown_up hg hv hsz
  have b2 := hW.trans b1
  have r1 := h.1.below b2 (Nat.lt_succ_self p)
  refine ⟨⟨r1, b2⟩, ⟨?_, ?_, fun h0 => by rw [List.length_append] at h0; omega⟩, (b2.mono (Nat.le_succ p)).setCell (show p ≤ (⟨p, 0, none⟩ : Addr).block from Nat.le_refl p) v'⟩
  · exact r1.store 0 v'
  · rw [flat_append, List.length_append]
    exact ownsRow_setCell_below hown (a := ⟨p, 0, none⟩) (Nat.lt_succ_self p) _

def joinL (l : List (Int × Int)) (lf lu : Int) : List (Int × Int) := if trackB l lf lu = true then joinTo l l.length else []
theorem joinL_no {l : List (Int × Int)} {lf lu : Int} (h : trackB l lf lu = false) : joinL l lf lu = [] := by simp [joinL, h]
theorem joinL_yes {l : List (Int × Int)} {lf lu : Int} (h : trackB l lf lu = true) : joinL l lf lu = joinTo l l.length := by simp [joinL, h]
theorem join_same {l : List (Int × Int)} {k : Nat} (h0 : 0 < (joinTo l k).length) (h : secG (joinTo l k) ((joinTo l k).length - 1) = secG l k) :
    joinTo l (k + 1) = (joinTo l k).set ((joinTo l k).length - 1) (secL (joinTo l k) ((joinTo l k).length - 1) + secL l k, secG (joinTo l k) ((joinTo l k).length - 1)) := if_pos ⟨h0, h⟩
theorem join_more {l : List (Int × Int)} {k : Nat} (h : ¬ (0 < (joinTo l k).length ∧ secG (joinTo l k) ((joinTo l k).length - 1) = secG l k)) : joinTo l (k + 1) = joinTo l k ++ [(secL l k, secG l k)] := if_neg h
theorem Out.alloc {W : World} {p : Nat} {v : Value} {lf lu : Int} {acc : List (Int × Int)} (h : Out W p v lf lu acc) (o : Obj) : Out (W.alloc o) p v lf lu acc :=
  ⟨h.1.below ((Below.refl _ _).alloc (Nat.le_refl _) o) h.1.lt, h.2.1.alloc o, h.2.2⟩
theorem Out.own {W : World} {p : Nat} {v : Value} {lf lu : Int} {acc : List (Int × Int)} (h : Out W p v lf lu acc) : ∀ k, v.ownBlock = some k → p + 1 ≤ k := fun k hk => (h.2.1.lt k hk).1
theorem Out.below {W W' : World} {p : Nat} {v : Value} {lf lu : Int} {acc : List (Int × Int)} (h : Out W p v lf lu acc) (hb : Below W.heap.size W W') : Out W' p v lf lu acc :=
  ⟨h.1.below hb h.1.lt, h.2.1.kept (grown_below hb none) (by cases v.ownBlock <;> simp), h.2.2⟩
theorem Out.merge {W W' : World} {p g cap : Nat} {lf lu a sg : Int} {acc : List (Int × Int)} (h : Out W p (.slice (some ⟨g, 0, none⟩) acc.length cap) lf lu acc) (hb : Below W.heap.size W W') (h0 : 0 < acc.length) (hg : p + 1 ≤ g) (hs : secG acc (acc.length - 1) = sg) :
    Out (W'.setCell ⟨g, (acc.length - 1) * 2, none⟩ (.int .i64 a)) p (.slice (some ⟨g, 0, none⟩) acc.length cap) lf lu (acc.set (acc.length - 1) (a, sg)) ∧ Below p W (W'.setCell ⟨g, (acc.length - 1) * 2, none⟩ (.int .i64 a)) := by
  subst hs
  have h' := h.below hb
  have hlt := h.lt
  refine ⟨⟨h'.1.far (show g ≠ p by omega) _, ?_, fun e => by rw [List.length_set] at e; omega⟩, (hb.mono (by omega)).setCell (show p ≤ g by omega) _⟩
  rw [flat_set _ _ _ (by omega), List.length_set]
  exact (h'.2.1.stored _ _).1
theorem OwnT.set {W : World} {B : Nat} {A : Option Addr} {n : Nat} {l : List (Int × Int)} (h : OwnT W B A n l) {q : Addr} (hq : q.block < B) (u : Value) : OwnT (W.setCell q u) B A n l :=
  ⟨h.1, fun hn => by
    obtain ⟨g, cs, e, hB, hr, hs, hc⟩ := h.2 hn
    exact ⟨g, cs, e, hB, hr.far (by omega) u, hs, hc⟩⟩
theorem OwnT.mono {W : World} {B B' : Nat} {A : Option Addr} {n : Nat} {l : List (Int × Int)} (h : OwnT W B A n l) (hB : B' ≤ B) : OwnT W B' A n l :=
  ⟨h.1, fun hn => by
    obtain ⟨g, cs, e, hg, hr, hs, hc⟩ := h.2 hn
    exact ⟨g, cs, e, by omega, hr, hs, hc⟩⟩
theorem below_drew_alloc (W : World) (m : Nat) (o : Obj) : Below W.heap.size W ((W.drewN m).alloc o) :=
  Below.trans (b := W.drewN m) ⟨rfl, rfl, rfl, Nat.le_refl _, fun _ _ => rfl⟩ (Below.alloc (Below.refl W.heap.size (W.drewN m)) (show W.heap.size ≤ (W.drewN m).heap.size from Nat.le_refl _) o)
theorem rows_pair (w : World) (x y : Value) (t : TypeId) : (w.alloc (.cells #[x, y] t)).cell? ⟨w.heap.size, 0, none⟩ = some x ∧ (w.alloc (.cells #[x, y] t)).cell? ⟨w.heap.size, 1, none⟩ = some y :=
  ⟨(RowAt.new w t #[x, y]).cell 0, (RowAt.new w t #[x, y]).cell 1⟩
end Go.Proofs.YtomkldkmaabbnaaDoor.TrkT
