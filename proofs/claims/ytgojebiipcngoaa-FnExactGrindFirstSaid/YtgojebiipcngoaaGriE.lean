/- The library's sort of the bends to be ground: a row of indices goes in, the reference's order comes out. -/
import Derived.Test.YtgojebiipcngoaaGriD
namespace Go.Proofs.Ytgojebiipcngoaa.GriE
set_option maxRecDepth 100000
open Go.Sort hiding Below
open Go.Shelf
open Go.RowKit Go.Proofs.Ytgojebiipcngoaa.Plain Go.Proofs.Ytgojebiipcngoaa.WalkA Go.Proofs.Ytgojebiipcngoaa.WalkB Go.Proofs.Ytgojebiipcngoaa.WalkC Go.Proofs.Ytgojebiipcngoaa.WalkF Go.Proofs.Ytgojebiipcngoaa.WalkH Go.Proofs.Ytgojebiipcngoaa.BndA Go.Proofs.Ytgojebiipcngoaa.BLaw Go.Proofs.Ytgojebiipcngoaa.BndC Go.Proofs.Ytgojebiipcngoaa.BlsA Go.Proofs.Ytgojebiipcngoaa.BlsD Go.Proofs.Ytgojebiipcngoaa.GriI Go.Proofs.Ytgojebiipcngoaa.GriP Go.Proofs.Ytgojebiipcngoaa.GriA Go.Proofs.Ytgojebiipcngoaa.GriC Go.Proofs.Ytgojebiipcngoaa.GriD

def clip (n k : Nat) : Nat := if k < n then k else 0
def encN (n : Nat) (k : Nat) : Value := .int .i64 (clip n k)
def gW (bl : List Bnd) (a m : Int) (k : Nat) : Int := fW bl a m (clip bl.length k)
theorem clip_lt {n k : Nat} (h : k < n) : clip n k = k := if_pos h
theorem clip_le {n : Nat} (h : 0 < n) (k : Nat) : clip n k < n := by unfold clip; split <;> omega
theorem gW_at {bl : List Bnd} {a m : Int} {k : Nat} (h : k < bl.length) : gW bl a m k = fW bl a m k := by unfold gW; rw [clip_lt h]
def idx (f : Nat → Int) (lim : Int) : Nat → List Nat
  | 0 => []
  | k + 1 => if lim < f k then idx f lim k ++ [k] else idx f lim k
theorem idx_yes {f : Nat → Int} {lim : Int} {k : Nat} (h : lim < f k) : idx f lim (k + 1) = idx f lim k ++ [k] := if_pos h
theorem idx_no {f : Nat → Int} {lim : Int} {k : Nat} (h : ¬ lim < f k) : idx f lim (k + 1) = idx f lim k := if_neg h
theorem idx_len (f : Nat → Int) (lim : Int) : ∀ k, (idx f lim k).length ≤ k
  | 0 => Nat.le_refl _
  | k + 1 => by
    have := idx_len f lim k
    by_cases h : lim < f k
    · rw [idx_yes h]; simp; omega
    · rw [idx_no h]; omega
theorem idx_mem (f : Nat → Int) (lim : Int) : ∀ k, ∀ x ∈ idx f lim k, x < k
  | 0, x, h => by simp [idx] at h
  | k + 1, x, h => by
    have ih := idx_mem f lim k
    by_cases hl : lim < f k
    · rw [idx_yes hl] at h
      rcases List.mem_append.1 h with h | h
      · have := ih x h; omega
      · simp at h; omega
    · rw [idx_no hl] at h
      have := ih x h; omega
theorem idx_sorted (f : Nat → Int) (lim : Int) : ∀ k, insAll f [] (idx f lim k) = grTo f lim k
  | 0 => rfl
  | k + 1 => by
    by_cases h : lim < f k
    · rw [idx_yes h, gr_yes h, insAll_snoc, idx_sorted f lim k]
    · rw [idx_no h, gr_no h, idx_sorted f lim k]
theorem insB_congr {f g : Nat → Int} {x : Nat} (hx : f x = g x) : ∀ {l : List Nat}, (∀ y ∈ l, f y = g y) → insB f x l = insB g x l
  | [], _ => rfl
  | y :: t, h => by
    rw [insB, insB, h y (by simp), hx, insB_congr hx (fun z hz => h z (by simp [hz]))]
theorem gr_congr {f g : Nat → Int} {lim : Int} {n : Nat} (h : ∀ i, i < n → f i = g i) : ∀ k, k ≤ n → grTo f lim k = grTo g lim k
  | 0, _ => rfl
  | k + 1, hk => by
    have ih := gr_congr (lim := lim) h k (by omega)
    have hm := grTo_mem g lim k
    have e : f k = g k := h k (by omega)
    by_cases hl : lim < f k
    · rw [gr_yes hl, gr_yes (by rw [← e]; exact hl), ih]
      unfold insF
      rw [insB_congr e (fun y hy => h y (by have := hm y (by simpa using hy); omega))]
    · rw [gr_no hl, gr_no (by rw [← e]; exact hl), ih]
theorem cmp_neg (x t : Int) : Lib.compareInt x t < 0 ↔ x < t := by
  unfold Lib.compareInt
  split
  · simp [*]
  · split <;> omega
theorem mapN {n : Nat} {l : List Nat} (h : ∀ x ∈ l, x < n) : l.map (encN n) = (toI l).map (Value.int .i64) := by
  unfold toI
  rw [List.map_map]
  refine List.map_congr_left fun x hx => ?_
  show Value.int .i64 (clip n x) = _
  rw [clip_lt (h x hx)]
  rfl

/-- The boxes and the list, in a world of the sort's. -/
theorem boxes_sort {W : World} {g1 g2 g3 b off c : Nat} {bl : List Bnd} {a m : Int} (h : Boxes W g1 g2 g3 b off c bl a m) {blk : Nat} (enc : Nat → Value) (n : Nat) (dk : Array Nat) (os : Array Obj) (n1 : g1 ≠ blk) (n2 : g2 ≠ blk) (n3 : g3 ≠ blk) (n4 : b ≠ blk) :
    Boxes (sortWorld enc W blk 0 n dk os) g1 g2 g3 b off c bl a m := by
  have hc : ∀ (p : Addr), p.block < W.heap.size → p.block ≠ blk → (sortWorld enc W blk 0 n dk os).cell? p = W.cell? p := fun p hp hne => by
    unfold sortWorld
    rw [cell?_grow _ _ _ (by rw [size_putRow]; exact hp), cell?_putRow_other _ _ _ _ _ _ (Or.inl hne)]
    rfl
  have hsz : W.heap.size ≤ (sortWorld enc W blk 0 n dk os).heap.size := by
    unfold sortWorld
    rw [size_grow, size_putRow]
    show W.heap.size ≤ W.heap.size + _
    omega
  refine ⟨(hc ⟨g1, 0, none⟩ h.l1 n1).trans h.h1, (hc ⟨g2, 0, none⟩ h.l2 n2).trans h.h2, (hc ⟨g3, 0, none⟩ h.l3 n3).trans h.h3, Nat.lt_of_lt_of_le h.l1 hsz, Nat.lt_of_lt_of_le h.l2 hsz, Nat.lt_of_lt_of_le h.l3 hsz, Nat.lt_of_lt_of_le h.lb hsz, fun i hi => ?_⟩
  obtain ⟨e0, e1, e2, e3⟩ := h.cells i hi
  exact ⟨(hc ⟨b, _, none⟩ h.lb n4).trans e0, (hc ⟨b, _, none⟩ h.lb n4).trans e1, (hc ⟨b, _, none⟩ h.lb n4).trans e2, (hc ⟨b, _, none⟩ h.lb n4).trans e3⟩
/-- The function value of the closure. -/
def cloV (g1 g2 g3 : Nat) : Value := .func (.func 26) #[] #[.pointer (some ⟨g1, 0, none⟩), .pointer (some ⟨g2, 0, none⟩), .pointer (some ⟨g3, 0, none⟩)]
theorem ins_own_any {W : World} {g1 g2 g3 b off c : Nat} {bl : List Bnd} {a m lim : Int} {B g cap : Nat} (hB : Boxes W g1 g2 g3 b off c bl a m) (hlb : listB bl = true) (ra : inB a 0 1000000 = true) (rm : inB m 0 100000 = true) (h12 : bl.length ≤ 12)
    (ho : OwnI W B (.slice (some ⟨g, 0, none⟩) (idx (gW bl a m) lim bl.length).length cap) (toI (idx (gW bl a m) lim bl.length))) (h0 : 0 < (idx (gW bl a m) lim bl.length).length) (n1 : g1 < B) (n2 : g2 < B) (n3 : g3 < B) (n4 : b < B) :
    Calls Try.prog 43 #[.slice (some ⟨g, 0, none⟩) (idx (gW bl a m) lim bl.length).length cap, .int .i64 0, .int .i64 ((idx (gW bl a m) lim bl.length).length : Nat), cloV g1 g2 g3] W fun e w' => e = .returned (.tuple #[]) ∧ OwnI w' B (.slice (some ⟨g, 0, none⟩) (idx (gW bl a m) lim bl.length).length cap) (toI (grTo (fW bl a m) lim bl.length)) ∧ Below B W w' := by
  have hgr : grTo (gW bl a m) lim bl.length = grTo (fW bl a m) lim bl.length := gr_congr (n := bl.length) (fun i hi => gW_at hi) _ (Nat.le_refl _)
  have hL := idx_len (gW bl a m) lim bl.length
  have hM := idx_mem (gW bl a m) lim bl.length
  have hS := idx_sorted (gW bl a m) lim bl.length
  rw [hgr] at hS
  generalize idx (gW bl a m) lim bl.length = L at *
  have hn : 0 < bl.length := by omega
  have hlt := (World.ownsRow.lt ho g rfl)
  have hG : g < W.heap.size ∧ B ≤ g := ⟨hlt.2, hlt.1⟩
  have hH : Holds (encN bl.length) W g 0 L.toArray := fun j hj => by
    have hj' : j < L.length := by simpa using hj
    obtain ⟨g', cap', e, _, _, hc⟩ := ho.form (by rw [toI_len]; exact h0)
    injection e with e1
    injection e1 with e1
    injection e1 with e1
    subst e1
    refine ⟨?_, ho.frozen _⟩
    rw [Nat.zero_add, hc j (by rw [toI_len]; exact hj'), toI_at hj']
    have e2 : L.toArray[j]! = L.getD j default := by simp [List.getD_eq_getElem?_getD]
    rw [e2]
    unfold encN
    rw [clip_lt (hM _ (getD_mem hj'))]
  have eg : ∀ args w, (callFunc 26 args).run Try.prog w = .ok (.enter 26 args) w := enters_of Try.func26 (by kernel_rfl) rfl
  have hcmp : CmpLays1 Try.prog 26 #[.pointer (some ⟨g1, 0, none⟩), .pointer (some ⟨g2, 0, none⟩), .pointer (some ⟨g3, 0, none⟩)] (encN bl.length) (fun x y => Lib.compareInt (gW bl a m y) (gW bl a m x)) g 0 L.toArray.size W := fun n os dk _ x y => by
    have h1 := clo_any (boxes_sort (blk := g) hB (encN bl.length) n dk os (by omega) (by omega) (by omega) (by omega)) hlb ra rm (clip bl.length x) (clip bl.length y) (clip_le hn x) (clip_le hn y)
    exact h1
  have hins := Any.insertionSortCmpFunc_s Try.insL (encN bl.length) (fun x y => Lib.compareInt (gW bl a m y) (gW bl a m x)) 26 _ g 0 cap 0 L.length L.toArray L.toArray W W eg hcmp ⟨fun _ => rfl, hH, hG.1⟩ rfl (SW.start hH) (Nat.zero_le _) (by simp) (by simp; omega)
  change Calls Try.prog 43 _ _ _ at hins
  refine hins.mono ?_
  rintro e w' ⟨rfl, n, os, rfl⟩
  have hsrt := sort_is (gW bl a m) (ltOf fun x y => Lib.compareInt (gW bl a m y) (gW bl a m x)) (fun x y => decide_eq_decide.2 (cmp_neg _ _)) L
  rw [hsrt, hS]
  have hY : (grTo (fW bl a m) lim bl.length).length = L.length := by rw [← hS, insAll_len]; simp
  have hYm := grTo_mem (fW bl a m) lim bl.length
  generalize grTo (fW bl a m) lim bl.length = Y at *
  have hown : W.ownsRow B 2 1 (.slice (some ⟨g, 0, none⟩) L.length cap) L.length (L.map (encN bl.length)) := by
    have h1 := ho
    unfold OwnI at h1
    rw [toI_len, ← mapN hM] at h1
    exact h1
  have hp := Go.Lib.ownsRow_putRow (q := n) (ys := Y) (k := L.length) hown hY (Nat.le_refl _)
  rw [List.take_of_length_le (by omega), mapN hYm] at hp
  have hp2 : OwnI (putRow (encN bl.length) (Sort.ahead W n) g 0 Y.toArray) B (.slice (some ⟨g, 0, none⟩) L.length cap) (toI Y) := by
    unfold OwnI
    rw [toI_len, hY]
    exact hp
  refine ⟨rfl, hp2.below ⟨rfl, rfl, rfl, by unfold sortWorld; rw [size_grow]; omega, fun k hk => heap_grow_old _ _ hk⟩, ⟨rfl, rfl, rfl, ?_, fun k hk => ?_⟩⟩
  · unfold sortWorld
    rw [size_grow, size_putRow]
    show W.heap.size ≤ W.heap.size + _
    omega
  · unfold sortWorld
    rw [heap_grow_old _ _ (by rw [size_putRow]; show k < W.heap.size; omega)]
    have hne : g ≠ k := by omega
    simp [putRow, mapBlock, Sort.ahead, Array.getElem?_modify, hne]
end Go.Proofs.Ytgojebiipcngoaa.GriE
