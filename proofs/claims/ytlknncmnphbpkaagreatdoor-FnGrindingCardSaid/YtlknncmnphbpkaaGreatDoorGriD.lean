/- The closure of the sort of the order of grinding. -/
import Derived.Test.YtlknncmnphbpkaaGreatDoorGriC
import Derived.Shelf.SlSortCmp.QuietGrown
namespace Go.Proofs.YtlknncmnphbpkaaGreatDoor.GriD
set_option maxRecDepth 100000
open Go.RowKit Go.Sort Go.Proofs.YtlknncmnphbpkaaGreatDoor.Plain Go.Proofs.YtlknncmnphbpkaaGreatDoor.WalkA Go.Proofs.YtlknncmnphbpkaaGreatDoor.WalkB Go.Proofs.YtlknncmnphbpkaaGreatDoor.WalkC Go.Proofs.YtlknncmnphbpkaaGreatDoor.WalkF Go.Proofs.YtlknncmnphbpkaaGreatDoor.WalkH Go.Proofs.YtlknncmnphbpkaaGreatDoor.BndA Go.Proofs.YtlknncmnphbpkaaGreatDoor.BLaw Go.Proofs.YtlknncmnphbpkaaGreatDoor.BndC Go.Proofs.YtlknncmnphbpkaaGreatDoor.BlsA Go.Proofs.YtlknncmnphbpkaaGreatDoor.BlsD Go.Proofs.YtlknncmnphbpkaaGreatDoor.GriI Go.Proofs.YtlknncmnphbpkaaGreatDoor.GriP Go.Proofs.YtlknncmnphbpkaaGreatDoor.GriA Go.Proofs.YtlknncmnphbpkaaGreatDoor.GriC

set_option maxHeartbeats 4000000 in
theorem clo_any {W : World} {g1 g2 g3 b off c : Nat} {bl : List Bnd} {a m : Int} (hB : Boxes W g1 g2 g3 b off c bl a m) (hlb : listB bl = true) (ra : inB a 0 1000000 = true) (rm : inB m 0 100000 = true) (x y : Nat) (hx : x < bl.length) (hy : y < bl.length) :
    Calls Tryz.prog 32 #[.int .i64 x, .int .i64 y, .pointer (some ⟨g1, 0, none⟩), .pointer (some ⟨g2, 0, none⟩), .pointer (some ⟨g3, 0, none⟩)] W fun e w' => e = .returned (.int .i64 (Lib.compareInt (fW bl a m y) (fW bl a m x))) ∧ ∃ q os', w' = grow (W.drewN q) os' := by
  have mixed := Tryz.insL.mixed
  have HW : Hid (∀ k n os, k < bl.length → Calls Tryz.prog 27 #[.agg #[.string (bAt bl k).s, .int .i64 (bAt bl k).r, .int .i64 (bAt bl k).l, .int .i64 (bAt bl k).c], .int .i64 a, .int .i64 m] (grow (W.drewN n) os) fun e w' => e = .returned (.int .i64 (fW bl a m k)) ∧ ∃ p : GrownBy, w' = grow (W.drewN p.n) p.os) := fun k n os hk => by
    obtain ⟨b1, _, _⟩ := (bendB_iff.1 (listB_at hlb k hk)).2
    have h1 := wearG_any (bAt bl k).s (bAt bl k).r (bAt bl k).l (bAt bl k).c a m (by omega) (inB_iff.1 ra) (inB_iff.1 rm) (grow (W.drewN n) os)
    unfold fW
    exact Calls.grown_of h1
  have HC : Hid (∀ u v n os, Calls Tryz.prog 33 #[.int .i64 u, .int .i64 v] (grow (W.drewN n) os) fun e w' => e = .returned (.int .i64 (Lib.compareInt u v)) ∧ ∃ p : GrownBy, w' = grow (W.drewN p.n) p.os) := fun u v n os => (cmp64_any u v _).mono fun _ _ ⟨he, hw⟩ => ⟨he, ⟨n, os⟩, hw⟩
  have c1 := fun n os => cell_grown hB.l1 hB.h1 n os
  have c2 := fun n os => cell_grown hB.l2 hB.h2 n os
  have c3 := fun n os => cell_grown hB.l3 hB.h3 n os
  obtain ⟨e0, e1, e2, e3⟩ := hB.cells x hx
  obtain ⟨d0, d1, d2, d3⟩ := hB.cells y hy
  have x0 := fun n os => cell_grown (a := ⟨b, off + x * 4, none⟩) hB.lb e0 n os
  have x1 := fun n os => cell_grown (a := ⟨b, off + x * 4 + 1, none⟩) hB.lb e1 n os
  have x2 := fun n os => cell_grown (a := ⟨b, off + x * 4 + 2, none⟩) hB.lb e2 n os
  have x3 := fun n os => cell_grown (a := ⟨b, off + x * 4 + 3, none⟩) hB.lb e3 n os
  have y0 := fun n os => cell_grown (a := ⟨b, off + y * 4, none⟩) hB.lb d0 n os
  have y1 := fun n os => cell_grown (a := ⟨b, off + y * 4 + 1, none⟩) hB.lb d1 n os
  have y2 := fun n os => cell_grown (a := ⟨b, off + y * 4 + 2, none⟩) hB.lb d2 n os
  have y3 := fun n os => cell_grown (a := ⟨b, off + y * 4 + 3, none⟩) hB.lb d3 n os
  have hxi : (x : Int) < (bl.length : Int) := by omega
  have hyi : (y : Int) < (bl.length : Int) := by omega
  clear hB e0 e1 e2 e3 d0 d1 d2 d3
  have HX := Lib.hid hx
  have HY := Lib.hid hy
  have HWx := Lib.hid (fun n os => HW.out x n os hx)
  have HWy := Lib.hid (fun n os => HW.out y n os hy)
  clear hlb ra rm HW
  generalize fW bl a m x = fx at *
  generalize fW bl a m y = fy at *
  generalize bAt bl x = bx at *
  generalize bAt bl y = by' at *
  obtain ⟨xs, xr, xl, xc⟩ := bx
  obtain ⟨ys, yr, yl, yc⟩ := by'
  go_enter Tryz.func32, Tryz.ntmps32
  go_wp2_with fail
  refine wp_region_quiet_grown (by assumption) (by kernel_rfl) ?_
  iterate 6 (quiet_step (fail))
  quiet_step ((go_at_call 27; exact HWy.out _ _))
  iterate 6 (quiet_step (fail))
  quiet_step ((go_at_call 27; exact HWx.out _ _))
  quiet_step ((go_at_call 33; exact HC.out _ _ _ _))
  quiet_step (fail)
  refine wpQuiet_nil ?_
  intro _ hw'
  obtain ⟨⟨nq, osq⟩, hw''⟩ := hw'
  subst hw''
  go_wp2
  go_ret
  exact ⟨rfl, _, _, rfl⟩
end Go.Proofs.YtlknncmnphbpkaaGreatDoor.GriD
/- The library's sort of the bends to be ground: a row of indices goes in, the reference's order comes out. -/
namespace Go.Proofs.YtlknncmnphbpkaaGreatDoor.GriE
set_option maxRecDepth 100000
open Go.Sort hiding Below
open Go.Shelf
open Go.RowKit Go.Proofs.YtlknncmnphbpkaaGreatDoor.Plain Go.Proofs.YtlknncmnphbpkaaGreatDoor.WalkA Go.Proofs.YtlknncmnphbpkaaGreatDoor.WalkB Go.Proofs.YtlknncmnphbpkaaGreatDoor.WalkC Go.Proofs.YtlknncmnphbpkaaGreatDoor.WalkF Go.Proofs.YtlknncmnphbpkaaGreatDoor.WalkH Go.Proofs.YtlknncmnphbpkaaGreatDoor.BndA Go.Proofs.YtlknncmnphbpkaaGreatDoor.BLaw Go.Proofs.YtlknncmnphbpkaaGreatDoor.BndC Go.Proofs.YtlknncmnphbpkaaGreatDoor.BlsA Go.Proofs.YtlknncmnphbpkaaGreatDoor.BlsD Go.Proofs.YtlknncmnphbpkaaGreatDoor.GriI Go.Proofs.YtlknncmnphbpkaaGreatDoor.GriP Go.Proofs.YtlknncmnphbpkaaGreatDoor.GriA Go.Proofs.YtlknncmnphbpkaaGreatDoor.GriC Go.Proofs.YtlknncmnphbpkaaGreatDoor.GriD

def clip (n k : Nat) : Nat := if k < n then k else 0
def encN (n : Nat) (k : Nat) : Value := .int .i64 (clip n k)
def gW (bl : List Bnd) (a m : Int) (k : Nat) : Int := fW bl a m (clip bl.length k)
theorem clip_lt {n k : Nat} (h : k < n) : clip n k = k := if_pos h
theorem clip_le {n : Nat} (h : 0 < n) (k : Nat) : clip n k < n := by unfold clip; split <;> omega
theorem gW_at {bl : List Bnd} {a m : Int} {k : Nat} (h : k < bl.length) : gW bl a m k = fW bl a m k := by unfold gW; rw [clip_lt h]
def idx (f : Nat → Int) (lim : Int) : Nat → List Nat
  | 0 => []
  | k + 1 => if lim < f k then idx f lim k ++ [k] else idx f lim k
theorem idx_yes {f : Nat → Int} {lim : Int} {k : Nat} (h : lim < f k) : idx f lim (k + 1) = idx f lim k ++ [k] := if_pos h
theorem idx_no {f : Nat → Int} {lim : Int} {k : Nat} (h : ¬ lim < f k) : idx f lim (k + 1) = idx f lim k := if_neg h
theorem idx_len (f : Nat → Int) (lim : Int) : ∀ k, (idx f lim k).length ≤ k
  | 0 => Nat.le_refl _
  | k + 1 => by
    have := idx_len f lim k
    by_cases h : lim < f k
    · rw [idx_yes h]; simp; omega
    · rw [idx_no h]; omega
theorem idx_mem (f : Nat → Int) (lim : Int) : ∀ k, ∀ x ∈ idx f lim k, x < k
  | 0, x, h => by simp [idx] at h
  | k + 1, x, h => by
    have ih := idx_mem f lim k
    by_cases hl : lim < f k
    · rw [idx_yes hl] at h
      rcases List.mem_append.1 h with h | h
      · have := ih x h; omega
      · simp at h; omega
    · rw [idx_no hl] at h
      have := ih x h; omega
theorem idx_sorted (f : Nat → Int) (lim : Int) : ∀ k, insAll f [] (idx f lim k) = grTo f lim k
  | 0 => rfl
  | k + 1 => by
    by_cases h : lim < f k
    · rw [idx_yes h, gr_yes h, insAll_snoc, idx_sorted f lim k]
    · rw [idx_no h, gr_no h, idx_sorted f lim k]
theorem insB_congr {f g : Nat → Int} {x : Nat} (hx : f x = g x) : ∀ {l : List Nat}, (∀ y ∈ l, f y = g y) → insB f x l = insB g x l
  | [], _ => rfl
  | y :: t, h => by
    rw [insB, insB, h y (by simp), hx, insB_congr hx (fun z hz => h z (by simp [hz]))]
theorem gr_congr {f g : Nat → Int} {lim : Int} {n : Nat} (h : ∀ i, i < n → f i = g i) : ∀ k, k ≤ n → grTo f lim k = grTo g lim k
  | 0, _ => rfl
  | k + 1, hk => by
    have ih := gr_congr (lim := lim) h k (by omega)
    have hm := grTo_mem g lim k
    have e : f k = g k := h k (by omega)
    by_cases hl : lim < f k
    · rw [gr_yes hl, gr_yes (by rw [← e]; exact hl), ih]
      unfold insF
      rw [insB_congr e (fun y hy => h y (by have := hm y (by simpa using hy); omega))]
    · rw [gr_no hl, gr_no (by rw [← e]; exact hl), ih]
theorem cmp_neg (x t : Int) : Lib.compareInt x t < 0 ↔ x < t := by
  unfold Lib.compareInt
  split
  · simp [*]
  · split <;> omega
theorem mapN {n : Nat} {l : List Nat} (h : ∀ x ∈ l, x < n) : l.map (encN n) = (toI l).map (Value.int .i64) := by
  unfold toI
  rw [List.map_map]
  refine List.map_congr_left fun x hx => ?_
  show Value.int .i64 (clip n x) = _
  rw [clip_lt (h x hx)]
  rfl

/-- The boxes and the list, in a world of the sort's. -/
theorem boxes_sort {W : World} {g1 g2 g3 b off c : Nat} {bl : List Bnd} {a m : Int} (h : Boxes W g1 g2 g3 b off c bl a m) {blk : Nat} (enc : Nat → Value) (n : Nat) (dk : Array Nat) (os : Array Obj) (n1 : g1 ≠ blk) (n2 : g2 ≠ blk) (n3 : g3 ≠ blk) (n4 : b ≠ blk) :
    Boxes (sortWorld enc W blk 0 n dk os) g1 g2 g3 b off c bl a m := by
  have hc : ∀ (p : Addr), p.block < W.heap.size → p.block ≠ blk → (sortWorld enc W blk 0 n dk os).cell? p = W.cell? p := fun p hp hne => by
    unfold sortWorld
    rw [cell?_grow _ _ _ (by rw [size_putRow]; exact hp), cell?_putRow_other _ _ _ _ _ _ (Or.inl hne)]
    rfl
  have hsz : W.heap.size ≤ (sortWorld enc W blk 0 n dk os).heap.size := by
    unfold sortWorld
    rw [size_grow, size_putRow]
    show W.heap.size ≤ W.heap.size + _
    omega
  refine ⟨(hc ⟨g1, 0, none⟩ h.l1 n1).trans h.h1, (hc ⟨g2, 0, none⟩ h.l2 n2).trans h.h2, (hc ⟨g3, 0, none⟩ h.l3 n3).trans h.h3, Nat.lt_of_lt_of_le h.l1 hsz, Nat.lt_of_lt_of_le h.l2 hsz, Nat.lt_of_lt_of_le h.l3 hsz, Nat.lt_of_lt_of_le h.lb hsz, fun i hi => ?_⟩
  obtain ⟨e0, e1, e2, e3⟩ := h.cells i hi
  exact ⟨(hc ⟨b, _, none⟩ h.lb n4).trans e0, (hc ⟨b, _, none⟩ h.lb n4).trans e1, (hc ⟨b, _, none⟩ h.lb n4).trans e2, (hc ⟨b, _, none⟩ h.lb n4).trans e3⟩
/-- The function value of the closure. -/
def cloV (g1 g2 g3 : Nat) : Value := .func (.func 32) #[] #[.pointer (some ⟨g1, 0, none⟩), .pointer (some ⟨g2, 0, none⟩), .pointer (some ⟨g3, 0, none⟩)]
theorem ins_own_any {W : World} {g1 g2 g3 b off c : Nat} {bl : List Bnd} {a m lim : Int} {B g cap : Nat} (hB : Boxes W g1 g2 g3 b off c bl a m) (hlb : listB bl = true) (ra : inB a 0 1000000 = true) (rm : inB m 0 100000 = true) (h12 : bl.length ≤ 12)
    (ho : OwnI W B (.slice (some ⟨g, 0, none⟩) (idx (gW bl a m) lim bl.length).length cap) (toI (idx (gW bl a m) lim bl.length))) (h0 : 0 < (idx (gW bl a m) lim bl.length).length) (n1 : g1 < B) (n2 : g2 < B) (n3 : g3 < B) (n4 : b < B) :
    Calls Tryz.prog 71 #[.slice (some ⟨g, 0, none⟩) (idx (gW bl a m) lim bl.length).length cap, .int .i64 0, .int .i64 ((idx (gW bl a m) lim bl.length).length : Nat), cloV g1 g2 g3] W fun e w' => e = .returned (.tuple #[]) ∧ OwnI w' B (.slice (some ⟨g, 0, none⟩) (idx (gW bl a m) lim bl.length).length cap) (toI (grTo (fW bl a m) lim bl.length)) ∧ Below B W w' := by
  have hgr : grTo (gW bl a m) lim bl.length = grTo (fW bl a m) lim bl.length := gr_congr (n := bl.length) (fun i hi => gW_at hi) _ (Nat.le_refl _)
  have hL := idx_len (gW bl a m) lim bl.length
  have hM := idx_mem (gW bl a m) lim bl.length
  have hS := idx_sorted (gW bl a m) lim bl.length
  rw [hgr] at hS
  generalize idx (gW bl a m) lim bl.length = L at *
  have hn : 0 < bl.length := by omega
  have hlt := (World.ownsRow.lt ho g rfl)
  have hG : g < W.heap.size ∧ B ≤ g := ⟨hlt.2, hlt.1⟩
  have hH : Holds (encN bl.length) W g 0 L.toArray := fun j hj => by
    have hj' : j < L.length := by simpa using hj
    obtain ⟨g', cap', e, _, _, hc⟩ := ho.form (by rw [toI_len]; exact h0)
    injection e with e1
    injection e1 with e1
    injection e1 with e1
    subst e1
    refine ⟨?_, ho.frozen _⟩
    rw [Nat.zero_add, hc j (by rw [toI_len]; exact hj'), toI_at hj']
    have e2 : L.toArray[j]! = L.getD j default := by simp [List.getD_eq_getElem?_getD]
    rw [e2]
    unfold encN
    rw [clip_lt (hM _ (getD_mem hj'))]
  have eg : ∀ args w, (callFunc 32 args).run Tryz.prog w = .ok (.enter 32 args) w := enters_of Tryz.func32 (by kernel_rfl) rfl
  have hcmp : CmpLays1 Tryz.prog 32 #[.pointer (some ⟨g1, 0, none⟩), .pointer (some ⟨g2, 0, none⟩), .pointer (some ⟨g3, 0, none⟩)] (encN bl.length) (fun x y => Lib.compareInt (gW bl a m y) (gW bl a m x)) g 0 L.toArray.size W := fun n os dk _ x y => by
    have h1 := clo_any (boxes_sort (blk := g) hB (encN bl.length) n dk os (by omega) (by omega) (by omega) (by omega)) hlb ra rm (clip bl.length x) (clip bl.length y) (clip_le hn x) (clip_le hn y)
    exact h1
  have hins := Any.insertionSortCmpFunc_s Tryz.insL (encN bl.length) (fun x y => Lib.compareInt (gW bl a m y) (gW bl a m x)) 32 _ g 0 cap 0 L.length L.toArray L.toArray W W eg hcmp ⟨fun _ => rfl, hH, hG.1⟩ rfl (SW.start hH) (Nat.zero_le _) (by simp) (by simp; omega)
  change Calls Tryz.prog 71 _ _ _ at hins
  refine hins.mono ?_
  rintro e w' ⟨rfl, n, os, rfl⟩
  have hsrt := sort_is (gW bl a m) (ltOf fun x y => Lib.compareInt (gW bl a m y) (gW bl a m x)) (fun x y => decide_eq_decide.2 (cmp_neg _ _)) L
  rw [hsrt, hS]
  have hY : (grTo (fW bl a m) lim bl.length).length = L.length := by rw [← hS, insAll_len]; simp
  have hYm := grTo_mem (fW bl a m) lim bl.length
  generalize grTo (fW bl a m) lim bl.length = Y at *
  have hown : W.ownsRow B 2 1 (.slice (some ⟨g, 0, none⟩) L.length cap) L.length (L.map (encN bl.length)) := by
    have h1 := ho
    unfold OwnI at h1
    rw [toI_len, ← mapN hM] at h1
    exact h1
  have hp := Go.Lib.ownsRow_putRow (q := n) (ys := Y) (k := L.length) hown hY (Nat.le_refl _)
  rw [List.take_of_length_le (by omega), mapN hYm] at hp
  have hp2 : OwnI (putRow (encN bl.length) (Sort.ahead W n) g 0 Y.toArray) B (.slice (some ⟨g, 0, none⟩) L.length cap) (toI Y) := by
    unfold OwnI
    rw [toI_len, hY]
    exact hp
  refine ⟨rfl, hp2.below ⟨rfl, rfl, rfl, by unfold sortWorld; rw [size_grow]; omega, fun k hk => heap_grow_old _ _ hk⟩, ⟨rfl, rfl, rfl, ?_, fun k hk => ?_⟩⟩
  · unfold sortWorld
    rw [size_grow, size_putRow]
    show W.heap.size ≤ W.heap.size + _
    omega
  · unfold sortWorld
    rw [heap_grow_old _ _ (by rw [size_putRow]; show k < W.heap.size; omega)]
    have hne : g ≠ k := by omega
    simp [putRow, mapBlock, Sort.ahead, Array.getElem?_modify, hne]
end Go.Proofs.YtlknncmnphbpkaaGreatDoor.GriE
/- The walk of the program's order of grinding. -/
namespace Go.Proofs.YtlknncmnphbpkaaGreatDoor.GriF
set_option maxRecDepth 100000
open Go.RowKit Go.Proofs.YtlknncmnphbpkaaGreatDoor.Plain Go.Proofs.YtlknncmnphbpkaaGreatDoor.WalkA Go.Proofs.YtlknncmnphbpkaaGreatDoor.WalkB Go.Proofs.YtlknncmnphbpkaaGreatDoor.WalkC Go.Proofs.YtlknncmnphbpkaaGreatDoor.WalkF Go.Proofs.YtlknncmnphbpkaaGreatDoor.WalkH Go.Proofs.YtlknncmnphbpkaaGreatDoor.BndA Go.Proofs.YtlknncmnphbpkaaGreatDoor.BLaw Go.Proofs.YtlknncmnphbpkaaGreatDoor.BndC Go.Proofs.YtlknncmnphbpkaaGreatDoor.BlsA Go.Proofs.YtlknncmnphbpkaaGreatDoor.BlsD Go.Proofs.YtlknncmnphbpkaaGreatDoor.GriI Go.Proofs.YtlknncmnphbpkaaGreatDoor.GriP Go.Proofs.YtlknncmnphbpkaaGreatDoor.GriA Go.Proofs.YtlknncmnphbpkaaGreatDoor.GriC Go.Proofs.YtlknncmnphbpkaaGreatDoor.GriD Go.Proofs.YtlknncmnphbpkaaGreatDoor.GriE

theorem ins_none (F : Value) (w : World) : Calls Tryz.prog 71 #[.slice none 0 0, .int .i64 0, .int .i64 0, F] w fun e w' => e = .returned (.tuple #[]) ∧ w' = w := by
  go_enter Tryz.func71, Tryz.ntmps71
  go_wp2
  go_loopg [8] 0 (fun g v wr => v = .int .i64 1 ∧ wr = w)
  case atStart => exact ⟨rfl, rfl⟩
  case round =>
    obtain ⟨rfl, rfl⟩ := hrel
    go_wp2
    go_end0
    exact ⟨rfl, rfl⟩
theorem stab_any (A : Option Addr) (c : Nat) (F : Value) (n : Nat) (hn : n ≤ 12) (w : World) (R : World → Prop) (h : Calls Tryz.prog 71 #[.slice A n c, .int .i64 0, .int .i64 n, F] w fun e w' => e = .returned (.tuple #[]) ∧ R w') :
    Calls Tryz.prog 31 #[.slice A n c, F] w fun e w' => e = .returned (.tuple #[]) ∧ R w' := by
  have HH := Lib.hid h
  clear h
  have h20 : ¬ (20 : Int) ≤ (n : Int) := by omega
  have h21 : ¬ (20 : Int) < (n : Int) := by omega
  have HS : Hid (Calls Tryz.prog 53 #[.slice A n c, .int .i64 n, F] w fun e w' => e = .returned (.tuple #[]) ∧ R w') := by
    show Calls _ _ _ _ _
    go_enter Tryz.func53, Tryz.ntmps53
    go_wp2
    go_loopg [7, 8] 0 (fun g u v wr => u = .int .i64 0 ∧ v = .int .i64 20 ∧ wr = w)
    case atStart => exact ⟨rfl, rfl, rfl⟩
    case round =>
      obtain ⟨rfl, rfl, rfl⟩ := hrel
      go_wp2_with fail
      refine HH.out.mono ?_
      rintro e w1 ⟨rfl, hr⟩
      have HR := Lib.hid hr
      clear hr
      go_wp2
      go_loopg [6] 0 (fun g v wr => v = .int .i64 20 ∧ wr = w1)
      case atStart => exact ⟨rfl, rfl⟩
      case round =>
        obtain ⟨rfl, rfl⟩ := hrel
        go_wp2
        go_end0
        exact ⟨rfl, HR.out⟩
  go_enter Tryz.func31, Tryz.ntmps31
  go_wp2_with fail
  refine HS.out.mono ?_
  rintro e w1 ⟨rfl, hr⟩
  have HR := Lib.hid hr
  clear hr
  go_wp2
  go_end0
  exact ⟨rfl, HR.out⟩
end Go.Proofs.YtlknncmnphbpkaaGreatDoor.GriF
/- The walk of the program's order of grinding, whole. -/
namespace Go.Proofs.YtlknncmnphbpkaaGreatDoor.GriG
set_option maxRecDepth 100000
open Go.RowKit Go.Proofs.YtlknncmnphbpkaaGreatDoor.Plain Go.Proofs.YtlknncmnphbpkaaGreatDoor.WalkA Go.Proofs.YtlknncmnphbpkaaGreatDoor.WalkB Go.Proofs.YtlknncmnphbpkaaGreatDoor.WalkC Go.Proofs.YtlknncmnphbpkaaGreatDoor.WalkF Go.Proofs.YtlknncmnphbpkaaGreatDoor.WalkH Go.Proofs.YtlknncmnphbpkaaGreatDoor.BndA Go.Proofs.YtlknncmnphbpkaaGreatDoor.BLaw Go.Proofs.YtlknncmnphbpkaaGreatDoor.BndC Go.Proofs.YtlknncmnphbpkaaGreatDoor.BlsA Go.Proofs.YtlknncmnphbpkaaGreatDoor.BlsD Go.Proofs.YtlknncmnphbpkaaGreatDoor.GriI Go.Proofs.YtlknncmnphbpkaaGreatDoor.GriP Go.Proofs.YtlknncmnphbpkaaGreatDoor.GriA Go.Proofs.YtlknncmnphbpkaaGreatDoor.GriC Go.Proofs.YtlknncmnphbpkaaGreatDoor.GriD Go.Proofs.YtlknncmnphbpkaaGreatDoor.GriE Go.Proofs.YtlknncmnphbpkaaGreatDoor.GriF

theorem boxes3 (w : World) (t1 t2 t3 : TypeId) (v1 v2 v3 : Value) :
    (((w.alloc (.cells #[v1] t1)).alloc (.cells #[v2] t2)).alloc (.cells #[v3] t3)).cell? ⟨w.heap.size, 0, none⟩ = some v1 ∧
    (((w.alloc (.cells #[v1] t1)).alloc (.cells #[v2] t2)).alloc (.cells #[v3] t3)).cell? ⟨w.heap.size + 1, 0, none⟩ = some v2 ∧
    (((w.alloc (.cells #[v1] t1)).alloc (.cells #[v2] t2)).alloc (.cells #[v3] t3)).cell? ⟨w.heap.size + 2, 0, none⟩ = some v3 ∧
    Below w.heap.size w (((w.alloc (.cells #[v1] t1)).alloc (.cells #[v2] t2)).alloc (.cells #[v3] t3)) ∧
    (((w.alloc (.cells #[v1] t1)).alloc (.cells #[v2] t2)).alloc (.cells #[v3] t3)).heap.size = w.heap.size + 3 := by
  have h3 := heap_alloc_new ((w.alloc (.cells #[v1] t1)).alloc (.cells #[v2] t2)) (.cells #[v3] t3)
  have h2 := heap_alloc_new (w.alloc (.cells #[v1] t1)) (.cells #[v2] t2)
  have h1 := heap_alloc_new w (.cells #[v1] t1)
  have b1 : Below (w.heap.size + 1) (w.alloc (.cells #[v1] t1)) ((w.alloc (.cells #[v1] t1)).alloc (.cells #[v2] t2)) := (Below.refl _ _).alloc (by simp) _
  have b2 : Below (w.heap.size + 2) ((w.alloc (.cells #[v1] t1)).alloc (.cells #[v2] t2)) (((w.alloc (.cells #[v1] t1)).alloc (.cells #[v2] t2)).alloc (.cells #[v3] t3)) := (Below.refl _ _).alloc (by simp) _
  have c1 := cell_of_row _ _ 0 _ _ _ h1
  have c2 := cell_of_row _ _ 0 _ _ _ h2
  have c3 := cell_of_row _ _ 0 _ _ _ h3
  have s1 : (w.alloc (.cells #[v1] t1)).heap.size = w.heap.size + 1 := by simp
  have s2 : ((w.alloc (.cells #[v1] t1)).alloc (.cells #[v2] t2)).heap.size = w.heap.size + 2 := by simp
  rw [s1] at c2
  rw [s2] at c3
  refine ⟨?_, ?_, c3, (((Below.refl w.heap.size w).alloc (Nat.le_refl _) _).alloc (by simp) _).alloc (by simp; omega) _, by simp⟩
  · exact (b2.cell (p := ⟨w.heap.size, 0, none⟩) (by show w.heap.size < _; omega)).trans ((b1.cell (p := ⟨w.heap.size, 0, none⟩) (by show w.heap.size < _; omega)).trans c1)
  · exact (b2.cell (p := ⟨w.heap.size + 1, 0, none⟩) (by show w.heap.size + 1 < _; omega)).trans c2
theorem toI_snoc (l : List Nat) (k : Nat) : toI (l ++ [k]) = toI l ++ [(k : Int)] := by simp [toI]
/-- The sort, of no index or of some. -/
theorem sort_any {W : World} {g1 g2 g3 c : Nat} {A : Option Addr} {bl : List Bnd} {a m lim : Int} {B ni cap : Nat} {A4 : Option Addr} (hlb : listB bl = true) (ra : inB a 0 1000000 = true) (rm : inB m 0 100000 = true) (h12 : bl.length ≤ 12) (hni : (toI (idx (gW bl a m) lim bl.length)).length = ni)
    (hnil : idx (gW bl a m) lim bl.length = [] → Value.slice A4 ni cap = .slice none 0 0) (ho : OwnI W B (.slice A4 ni cap) (toI (idx (gW bl a m) lim bl.length)))
    (hB : 0 < bl.length → ∃ b off, A = some ⟨b, off, none⟩ ∧ b < B ∧ Boxes W g1 g2 g3 b off c bl a m) (n1 : g1 < B) (n2 : g2 < B) (n3 : g3 < B) :
    Calls Tryz.prog 31 #[.slice A4 ni cap, cloV g1 g2 g3] W fun e w' => e = .returned (.tuple #[]) ∧ (OwnI w' B (.slice A4 ni cap) (toI (grTo (fW bl a m) lim bl.length)) ∧ Below B W w') := by
  have hL := idx_len (gW bl a m) lim bl.length
  rw [toI_len] at hni
  by_cases h0 : 0 < ni
  · obtain ⟨b, off, rfl, hb, hbx⟩ := hB (by omega)
    obtain ⟨g, cap2, e, _⟩ := ho.form (by rw [toI_len]; omega)
    injection e with e1 e2 e3
    subst e1; subst e3
    subst hni
    refine stab_any _ _ _ _ (by omega) _ _ ?_
    exact ins_own_any hbx hlb ra rm h12 ho h0 n1 n2 n3 hb
  · have hz : ni = 0 := by omega
    have he : idx (gW bl a m) lim bl.length = [] := List.length_eq_zero_iff.1 (by omega)
    have hv := hnil he
    injection hv with e1 e2 e3
    subst e1; subst e3; subst hz
    have hgr : grTo (fW bl a m) lim bl.length = [] := by
      rw [← gr_congr (n := bl.length) (fun i hi => gW_at hi) _ (Nat.le_refl _), ← idx_sorted, he]
      rfl
    rw [hgr]
    refine stab_any _ _ _ _ (by omega) _ _ ?_
    refine (ins_none _ _).mono ?_
    rintro e w' ⟨rfl, rfl⟩
    exact ⟨rfl, OwnI.none _ _, Below.refl _ _⟩
set_option maxHeartbeats 4000000 in
theorem implGrind_any (A : Option Addr) (n c : Nat) (bl : List Bnd) (a m lim : Int) (w : World) (hs : Bnds w w.heap.size A n bl) (hn : n ≤ 9223372036854775807) :
    Calls Tryz.prog 9 #[.slice A n c, .int .i64 a, .int .i64 m, .int .i64 lim] w (NewI w (grL bl a m lim) (grC bl a m lim)) := by
  have HO : Hid (∀ W, Below w.heap.size w W → Calls Tryz.prog 30 #[.slice A n c] W fun e w' => e = .returned (.bool (listB bl)) ∧ Below W.heap.size W w') := fun W hW => implListOk_any A n c bl W (hs.below hW hW.size) hn
  have HS := Lib.hid hs
  obtain ⟨rfl, _⟩ := hs
  obtain ⟨i0, hi, hz0, hz1, hz2⟩ := info_parts info_i64
  have HR := Lib.hid (fun x W => isRides_any x W)
  have HK := Lib.hid (fun x W => isLoad_any x W)
  have HE := Lib.hid (fun x W => isWear_any x W)
  obtain ⟨k1, k2, k3, k4, k5⟩ := boxes3 w 30 2 2 (.slice A bl.length c) (.int .i64 a) (.int .i64 m)
  have HB := Lib.hid k4
  have HV := Lib.hid (HO.out _ k4)
  have K5 := Lib.hid k5
  clear HO k4 k5
  cases hlb : listB bl
  · obtain ⟨e1, e2⟩ := gr_bad (a := a) (m := m) (lim := lim) hlb
    rw [hlb] at HV
    rw [e1, e2]
    clear e1 e2 hlb HR HK HE
    go_enter Tryz.func9, Tryz.ntmps9
    go_wp2_with fail
    refine HV.out.mono ?_
    rintro e w1 ⟨rfl, hb1⟩
    have HB1 := Lib.hid (HB.out.trans (hb1.mono (by have := K5.out; omega)))
    clear hb1
    go_wp2_with fail
    go_ret2
    exact ⟨_, rfl, OwnI.none _ _, HB1.out⟩
  · rw [hlb] at HV
    cases hr : grR a m lim
    · obtain ⟨e1, e2⟩ := gr_out (a := a) (m := m) (lim := lim) hlb hr
      rw [e1, e2]
      have hr2 := hr
      unfold grR at hr2
      have HR1 : Hid (∀ W, Calls Tryz.prog 28 #[.int .i64 a] W fun e w' => e = .returned (.bool (inB a 0 1000000)) ∧ W = w') := fun W => HR.out a W
      have HK1 : Hid (∀ W, Calls Tryz.prog 23 #[.int .i64 m] W fun e w' => e = .returned (.bool (inB m 0 100000)) ∧ W = w') := fun W => HK.out m W
      have HR2 : Hid (∀ W, Calls Tryz.prog 24 #[.int .i64 lim] W fun e w' => e = .returned (.bool (inB lim 0 1000000)) ∧ W = w') := fun W => HE.out lim W
      clear e1 e2 hr hlb HR HK HE
      generalize inB a 0 1000000 = p1 at *
      generalize inB m 0 100000 = p2 at *
      generalize inB lim 0 1000000 = p3 at *
      cases p1
      · clear hr2
        go_enter Tryz.func9, Tryz.ntmps9
        go_wp2_with fail
        refine HV.out.mono ?_
        rintro e w1 ⟨rfl, hb1⟩
        have HB1 := Lib.hid (HB.out.trans (hb1.mono (by have := K5.out; omega)))
        have j1 := (hb1.cell (p := ⟨w.heap.size, 0, none⟩) (by have := K5.out; show w.heap.size < _; omega)).trans k1
        have j2 := (hb1.cell (p := ⟨w.heap.size + 1, 0, none⟩) (by have := K5.out; show w.heap.size + 1 < _; omega)).trans k2
        have j3 := (hb1.cell (p := ⟨w.heap.size + 2, 0, none⟩) (by have := K5.out; show w.heap.size + 2 < _; omega)).trans k3
        have hz1' : w.heap.size + 3 ≤ w1.heap.size := by have := K5.out; have := hb1.size; omega
        clear hb1 k1 k2 k3
        go_wp2_with fail
        refine (HR1.out _).mono ?_
        rintro e w2 ⟨rfl, rfl⟩
        go_wp2_with fail
        go_ret2
        exact ⟨_, rfl, OwnI.none _ _, HB1.out⟩
      cases p2
      · clear hr2
        go_enter Tryz.func9, Tryz.ntmps9
        go_wp2_with fail
        refine HV.out.mono ?_
        rintro e w1 ⟨rfl, hb1⟩
        have HB1 := Lib.hid (HB.out.trans (hb1.mono (by have := K5.out; omega)))
        have j1 := (hb1.cell (p := ⟨w.heap.size, 0, none⟩) (by have := K5.out; show w.heap.size < _; omega)).trans k1
        have j2 := (hb1.cell (p := ⟨w.heap.size + 1, 0, none⟩) (by have := K5.out; show w.heap.size + 1 < _; omega)).trans k2
        have j3 := (hb1.cell (p := ⟨w.heap.size + 2, 0, none⟩) (by have := K5.out; show w.heap.size + 2 < _; omega)).trans k3
        have hz1' : w.heap.size + 3 ≤ w1.heap.size := by have := K5.out; have := hb1.size; omega
        clear hb1 k1 k2 k3
        go_wp2_with fail
        refine (HR1.out _).mono ?_
        rintro e w2 ⟨rfl, rfl⟩
        go_wp2_with fail
        refine (HK1.out _).mono ?_
        rintro e w2 ⟨rfl, rfl⟩
        go_wp2_with fail
        go_ret2
        exact ⟨_, rfl, OwnI.none _ _, HB1.out⟩
      cases p3
      · clear hr2
        go_enter Tryz.func9, Tryz.ntmps9
        go_wp2_with fail
        refine HV.out.mono ?_
        rintro e w1 ⟨rfl, hb1⟩
        have HB1 := Lib.hid (HB.out.trans (hb1.mono (by have := K5.out; omega)))
        have j1 := (hb1.cell (p := ⟨w.heap.size, 0, none⟩) (by have := K5.out; show w.heap.size < _; omega)).trans k1
        have j2 := (hb1.cell (p := ⟨w.heap.size + 1, 0, none⟩) (by have := K5.out; show w.heap.size + 1 < _; omega)).trans k2
        have j3 := (hb1.cell (p := ⟨w.heap.size + 2, 0, none⟩) (by have := K5.out; show w.heap.size + 2 < _; omega)).trans k3
        have hz1' : w.heap.size + 3 ≤ w1.heap.size := by have := K5.out; have := hb1.size; omega
        clear hb1 k1 k2 k3
        go_wp2_with fail
        refine (HR1.out _).mono ?_
        rintro e w2 ⟨rfl, rfl⟩
        go_wp2_with fail
        refine (HK1.out _).mono ?_
        rintro e w2 ⟨rfl, rfl⟩
        go_wp2_with fail
        refine (HR2.out _).mono ?_
        rintro e w2 ⟨rfl, rfl⟩
        go_wp2_with fail
        go_ret2
        exact ⟨_, rfl, OwnI.none _ _, HB1.out⟩
      · cases hr2
    · have hr2 := hr
      unfold grR at hr2
      rw [Bool.and_eq_true, Bool.and_eq_true] at hr2
      obtain ⟨ra, rm, rl⟩ := hr2
      obtain ⟨e1, e2⟩ := gr_ok (lim := lim) hlb hr
      have hl12 : bl.length ≤ 12 := by
        unfold listB at hlb
        rw [Bool.and_eq_true, decide_eq_true_eq] at hlb
        exact hlb.2
      have HW : Hid (∀ k W, k < bl.length → Calls Tryz.prog 27 #[.agg #[.string (bAt bl k).s, .int .i64 (bAt bl k).r, .int .i64 (bAt bl k).l, .int .i64 (bAt bl k).c], .int .i64 a, .int .i64 m] W fun e w' => e = .returned (.int .i64 (fW bl a m k)) ∧ Below W.heap.size W w') := fun k W hk => by
        obtain ⟨b1, _, _⟩ := (bendB_iff.1 (listB_at hlb k hk)).2
        have h1 := wear_any (bAt bl k).s (bAt bl k).r (bAt bl k).l (bAt bl k).c a m (by omega) (inB_iff.1 ra) (inB_iff.1 rm) W
        unfold fW
        exact h1
      rw [e1, e2]
      have HLB := Lib.hid hlb
      have HRA := Lib.hid ra
      have HRM := Lib.hid rm
      have HR1 : Hid (∀ W, Calls Tryz.prog 28 #[.int .i64 a] W fun e w' => e = .returned (.bool true) ∧ W = w') := fun W => by have h := HR.out a W; rw [ra] at h; exact h
      have HK1 : Hid (∀ W, Calls Tryz.prog 23 #[.int .i64 m] W fun e w' => e = .returned (.bool true) ∧ W = w') := fun W => by have h := HK.out m W; rw [rm] at h; exact h
      have HR2 : Hid (∀ W, Calls Tryz.prog 24 #[.int .i64 lim] W fun e w' => e = .returned (.bool true) ∧ W = w') := fun W => by have h := HE.out lim W; rw [rl] at h; exact h
      clear e1 e2 hr hlb ra rm rl HR HK HE
      go_enter Tryz.func9, Tryz.ntmps9
      go_wp2_with fail
      refine HV.out.mono ?_
      rintro e w1 ⟨rfl, hb1⟩
      have HB1 := Lib.hid (HB.out.trans (hb1.mono (by have := K5.out; omega)))
      have j1 := (hb1.cell (p := ⟨w.heap.size, 0, none⟩) (by have := K5.out; show w.heap.size < _; omega)).trans k1
      have j2 := (hb1.cell (p := ⟨w.heap.size + 1, 0, none⟩) (by have := K5.out; show w.heap.size + 1 < _; omega)).trans k2
      have j3 := (hb1.cell (p := ⟨w.heap.size + 2, 0, none⟩) (by have := K5.out; show w.heap.size + 2 < _; omega)).trans k3
      have hz1' : w.heap.size + 3 ≤ w1.heap.size := by have := K5.out; have := hb1.size; omega
      clear hb1 k1 k2 k3
      go_wp2_with fail
      refine (HR1.out _).mono ?_
      rintro e w2 ⟨rfl, rfl⟩
      go_wp2_with fail
      refine (HK1.out _).mono ?_
      rintro e w2 ⟨rfl, rfl⟩
      go_wp2_with fail
      refine (HR2.out _).mono ?_
      rintro e w2 ⟨rfl, rfl⟩
      have J1 := Lib.hid j1
      have J2 := Lib.hid j2
      have J3 := Lib.hid j3
      clear HV HB K5 HR1 HK1 HR2 hn
      go_wp2_with fail
      go_loopg [10, 31] bl.length (fun g1 v i wr => ∃ k : Nat, k ≤ bl.length ∧ bl.length - k ≤ g1 ∧ i = .int .i64 k ∧ Hid (idx (gW bl a m) lim k = [] → v = .slice none 0 0) ∧ Hid (OwnI wr w1.heap.size v (toI (idx (gW bl a m) lim k))) ∧ Hid (Below w1.heap.size w1 wr))
      case atStart => exact ⟨0, Nat.zero_le _, by omega, rfl, fun _ => rfl, OwnI.none _ _, Below.refl _ _⟩
      case round =>
        clear j1 j2 j3
        obtain ⟨k, hk, hg, rfl, HNI, HOV, HBR⟩ := hrel
        have j1 := (HBR.out.cell (p := ⟨w.heap.size, 0, none⟩) (by show w.heap.size < _; omega)).trans J1.out
        have j2 := (HBR.out.cell (p := ⟨w.heap.size + 1, 0, none⟩) (by show w.heap.size + 1 < _; omega)).trans J2.out
        have j3 := (HBR.out.cell (p := ⟨w.heap.size + 2, 0, none⟩) (by show w.heap.size + 2 < _; omega)).trans J3.out
        have hsz := HBR.out.size
        obtain ⟨ni, hni⟩ : ∃ ni, (toI (idx (gW bl a m) lim k)).length = ni := ⟨_, rfl⟩
        obtain ⟨A4, c4, rfl⟩ := OwnI.shape' hni HOV.out
        have HNI2 := Lib.hid hni
        have hni12 : ni ≤ 12 := by
          have := idx_len (gW bl a m) lim k
          rw [toI_len] at hni
          omega
        clear hni
        by_cases hlt : k < bl.length
        · obtain ⟨b, off, rfl, hb, hc⟩ := (HS.out.below (HB1.out.trans (HBR.out.mono (show w.heap.size ≤ w1.heap.size by omega))) (show w.heap.size ≤ wr.heap.size by omega)).2.2 (by omega)
          obtain ⟨q0, q1, q2, q3⟩ := hc k hlt
          have HWk := Lib.hid (fun W => HW.out k W hlt)
          have HG := Lib.hid (gW_at (a := a) (m := m) hlt)
          obtain ⟨NV, hNV⟩ : ∃ NV, NV = fW bl a m k := ⟨_, rfl⟩
          rw [← hNV] at HWk HG
          clear hc hNV
          generalize bAt bl k = y1 at *
          obtain ⟨s, r, l, q⟩ := y1
          have hki : (k : Int) < (bl.length : Int) := by omega
          obtain ⟨p0, p1, p2, p3, p4, p5⟩ := boxed4 wr 25 (.string s) (.int .i64 r) (.int .i64 l) (.int .i64 q)
          have m1 := (p4.cell (p := ⟨w.heap.size, 0, none⟩) (by show w.heap.size < _; omega)).trans j1
          have m2 := (p4.cell (p := ⟨w.heap.size + 1, 0, none⟩) (by show w.heap.size + 1 < _; omega)).trans j2
          have m3 := (p4.cell (p := ⟨w.heap.size + 2, 0, none⟩) (by show w.heap.size + 2 < _; omega)).trans j3
          have HP4 := Lib.hid p4
          have HP5 := Lib.hid p5
          clear p4 p5
          by_cases hle : NV ≤ lim
          · have HIX : Hid (idx (gW bl a m) lim (k + 1) = idx (gW bl a m) lim k) := idx_no (by rw [HG.out]; omega)
            go_wp2_with fail
            refine (HWk.out _).mono ?_
            rintro e w3 ⟨rfl, hb3⟩
            have HB3 := Lib.hid (HBR.out.trans (HP4.out.trans (hb3.mono (by have := HP5.out; omega)) |>.mono hsz))
            have HO3 : Hid (OwnI w3 w1.heap.size (.slice A4 ni c4) (toI (idx (gW bl a m) lim (k + 1)))) := by
              show OwnI _ _ _ _
              rw [HIX.out]
              exact HOV.out.below (HP4.out.trans (hb3.mono (by have := HP5.out; omega)))
            clear hb3
            go_wp2_with fail
            go_roundg (bl.length - (k + 1))
            case measure => omega
            case rel => exact ⟨k + 1, by omega, Nat.le_refl _, by go_num, by (show _ → _; rw [HIX.out]; exact HNI.out), HO3, HB3.out⟩
          · have HIX : Hid (idx (gW bl a m) lim (k + 1) = idx (gW bl a m) lim k ++ [k]) := idx_yes (by rw [HG.out]; omega)
            go_wp2_with fail
            refine (HWk.out _).mono ?_
            rintro e w3 ⟨rfl, hb3⟩
            have HB3 := Lib.hid (HP4.out.trans (hb3.mono (by have := HP5.out; omega)))
            have HOV3 := Lib.hid (HOV.out.below HB3.out)
            have HB4 := Lib.hid (HBR.out.trans (HB3.out.mono hsz))
            clear hb3
            have HOW4 : Hid (w3.ownsRow w1.heap.size 2 1 (.slice A4 ni c4) ni ((toI (idx (gW bl a m) lim k)).map (Value.int .i64))) := by
              have h1 := HOV3.out
              unfold OwnI at h1
              rw [HNI2.out] at h1
              exact h1
            have HNEW := Lib.hid (World.news_of_block (heap_alloc_new w3 (.cells #[.int .i64 (k : Int)] 2)))
            have hw13 := HB4.out.size
            have u1 : ni + 1 ≤ maxLen := by unfold maxLen; omega
            have u2 : (ni + 1) * 8 ≤ 140737488355328 := by omega
            go_wp2_with (at_builtin; refine wpList_append_lies _ rfl _ _ 33 rfl w1.heap.size 2 i0 (.int .i64 0) 1 8 Tryz.underlying33 hi hz0 hz1 hz2 rfl (by decide) _ ni ((toI (idx (gW bl a m) lim k)).map (Value.int .i64)) rfl (World.ownsRow.alloc HOW4.out _) ⟨w3.heap.size, 0, none⟩ 1 1 [.int .i64 (k : Int)] rfl rfl HNEW.out (one_ints [(k : Int)]) (by decide) u1 u2 (by simp; omega) _ rfl ?_)
            intro gc capc w5 hown hgrow hat hltc
            have HB5 : Hid (Below w1.heap.size w1 w5) := by
              have hg2 : Below w1.heap.size (w3.alloc (.cells #[.int .i64 (k : Int)] 2)) w5 := ⟨hgrow.os, hgrow.tape, hgrow.output, hgrow.size, fun q hq => hgrow.block q (by simp; omega) (fun e => by have := (World.ownsRow.lt HOW4.out q e.symm).1; omega)⟩
              exact HB4.out.trans (((Below.refl w1.heap.size w3).alloc hw13 _).trans hg2)
            have HOV5 : Hid (OwnI w5 w1.heap.size (.slice (some ⟨gc, 0, none⟩) (ni + 1) capc) (toI (idx (gW bl a m) lim (k + 1)))) := by
              show OwnI _ _ _ _
              rw [HIX.out, toI_snoc]
              exact OwnI.snoc' HNI2.out hown
            have HNN : Hid (idx (gW bl a m) lim (k + 1) = [] → Value.slice (some ⟨gc, 0, none⟩) (ni + 1) capc = .slice none 0 0) := fun h => by
              rw [HIX.out] at h
              simp at h
            clear hown hgrow hat
            go_wp2_with fail
            go_roundg (bl.length - (k + 1))
            case measure => omega
            case rel => exact ⟨k + 1, by omega, Nat.le_refl _, by go_num, HNN, HOV5, HB5⟩
        · have e : k = bl.length := by omega
          subst e
          have HBX : Hid (0 < bl.length → ∃ b off, A = some ⟨b, off, none⟩ ∧ b < w1.heap.size ∧ Boxes wr w.heap.size (w.heap.size + 1) (w.heap.size + 2) b off c bl a m) := fun h0 => by
            obtain ⟨b, off, rfl, hb, hc⟩ := HS.out.2.2 h0
            have hb2 := (HS.out.below (HB1.out.trans (HBR.out.mono (show w.heap.size ≤ w1.heap.size by omega))) (show w.heap.size ≤ wr.heap.size by omega)).2.2 h0
            obtain ⟨b', off', e, _, hc2⟩ := hb2
            injection e with e
            injection e with e1 e2
            subst e1; subst e2
            exact ⟨b, off, rfl, by omega, ⟨j1, j2, j3, by omega, by omega, by omega, by omega, hc2⟩⟩
          have HST := Lib.hid (sort_any (c := c) (A := A) (g1 := w.heap.size) (g2 := w.heap.size + 1) (g3 := w.heap.size + 2) HLB.out HRA.out HRM.out hl12 HNI2.out HNI.out HOV.out HBX.out (by omega) (by omega) (by omega))
          go_wp2_with fail
          refine HST.out.mono ?_
          rintro e w3 ⟨rfl, ho3, hb3⟩
          have HO3 := Lib.hid ho3
          have HB3 := Lib.hid hb3
          clear ho3 hb3
          go_wp2_with fail
          go_ret2
          exact ⟨_, rfl, HO3.out.mono (by omega), HB1.out.trans ((HBR.out.trans HB3.out).mono (by omega))⟩
end Go.Proofs.YtlknncmnphbpkaaGreatDoor.GriG
