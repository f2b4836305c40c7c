/- Plain words on tracks: lengths of sections, what makes them valid, and how a slice of sections lies in memory. No conditions beyond those each lemma states. -/
import Derived.Test.YtomkldkmaabbnaaDoorPlainB
import Derived.WalkKit
import Derived.WalkSpells
namespace Go.Proofs.YtomkldkmaabbnaaDoor.TrkP
open Go.RowKit Go.Proofs.YtomkldkmaabbnaaDoor.Plain

/-- A section: its length and its grade. -/
def secL (l : List (Int × Int)) (i : Nat) : Int := (l.getD i (0, 0)).1
def secG (l : List (Int × Int)) (i : Nat) : Int := (l.getD i (0, 0)).2
/-- How sections lie in memory: behind a slice of n of them, below block B. -/
def Secs (w : World) (B : Nat) (A : Option Addr) (n : Nat) (l : List (Int × Int)) : Prop :=
  l.length = n ∧ (0 < n → ∃ (b off : Nat), A = some ⟨b, off, none⟩ ∧ b < B ∧ ∀ i, i < n → w.cell? ⟨b, off + i * 2, none⟩ = some (.int .i64 (secL l i)) ∧ w.cell? ⟨b, off + i * 2 + 1, none⟩ = some (.int .i64 (secG l i)))
theorem Secs.below {w w' : World} {B B' : Nat} {A : Option Addr} {n : Nat} {l : List (Int × Int)} (h : Secs w B A n l) (hb : Below B w w') (hB : B ≤ B') : Secs w' B' A n l :=
  ⟨h.1, fun hn => by
    obtain ⟨b, off, e, hlt, hc⟩ := h.2 hn
    refine ⟨b, off, e, by omega, fun i hi => ?_⟩
    obtain ⟨c1, c2⟩ := hc i hi
    exact ⟨(hb.cell (p := ⟨b, off + i * 2, none⟩) hlt).trans c1, (hb.cell (p := ⟨b, off + i * 2 + 1, none⟩) hlt).trans c2⟩⟩
theorem Secs.more {w : World} {B B' : Nat} {A : Option Addr} {n : Nat} {l : List (Int × Int)} (h : Secs w B A n l) (hB : B ≤ B') : Secs w B' A n l := h.below (Below.refl _ _) hB
theorem Secs.alloc {w : World} {B : Nat} {A : Option Addr} {n : Nat} {l : List (Int × Int)} (h : Secs w B A n l) (hB : B ≤ w.heap.size) (o : Obj) : Secs (w.alloc o) B A n l := h.below ((Below.refl _ _).alloc hB o) (Nat.le_refl _)

def lenTo (l : List (Int × Int)) : Nat → Int
  | 0 => 0
  | k + 1 => lenTo l k + secL l k
def lenAll (l : List (Int × Int)) : Int := lenTo l l.length
/-- The sections are within their limits. -/
def GoodL (l : List (Int × Int)) : Prop := l.length ≤ 12 ∧ ∀ i, i < l.length → 1 ≤ secL l i ∧ secL l i ≤ 3000000 ∧ 0 ≤ secG l i ∧ secG l i ≤ 900
theorem lenTo_bd {l : List (Int × Int)} (h : GoodL l) (k : Nat) (hk : k ≤ l.length) : (k : Int) ≤ lenTo l k ∧ lenTo l k ≤ 3000000 * k := by
  induction k with
  | zero => simp [lenTo]
  | succ k ih =>
    obtain ⟨h1, h2⟩ := ih (by omega)
    obtain ⟨g1, g2, _, _⟩ := h.2 k (by omega)
    simp only [lenTo]
    omega
theorem lenTo_bds {l : List (Int × Int)} (h : GoodL l) (k : Nat) (hk : k ≤ l.length) : 0 ≤ lenTo l k ∧ lenTo l k ≤ 36000000 := by
  have h1 := lenTo_bd h k hk
  have h2 := h.1
  omega
theorem lenAll_bds {l : List (Int × Int)} (h : GoodL l) : 0 ≤ lenAll l ∧ lenAll l ≤ 36000000 := lenTo_bds h _ (Nat.le_refl _)
def secOk (l : List (Int × Int)) (i : Nat) : Bool := inB (secL l i) 1 3000000 && inB (secG l i) 0 900
def oksTo (l : List (Int × Int)) : Nat → Bool
  | 0 => true
  | k + 1 => oksTo l k && secOk l k
theorem oksTo_false {l : List (Int × Int)} {k n : Nat} (h : oksTo l k = false) (hk : k ≤ n) : oksTo l n = false := by
  obtain ⟨j, rfl⟩ : ∃ j, n = k + j := ⟨n - k, by omega⟩
  induction j with
  | zero => exact h
  | succ j ih => show (oksTo l (k + j) && _) = false; rw [ih (by omega)]; rfl
theorem oksTo_at {l : List (Int × Int)} {n : Nat} (h : oksTo l n = true) (i : Nat) (hi : i < n) : 1 ≤ secL l i ∧ secL l i ≤ 3000000 ∧ 0 ≤ secG l i ∧ secG l i ≤ 900 := by
  cases hs : oksTo l (i + 1)
  · rw [oksTo_false hs (by omega)] at h; cases h
  · simp only [oksTo, secOk, Bool.and_eq_true] at hs
    have a := inB_iff.1 hs.2.1
    have b := inB_iff.1 hs.2.2
    omega
/-- The whole track is valid. -/
def trackB (l : List (Int × Int)) (lf lu : Int) : Bool :=
  (decide (1 ≤ l.length) && (decide (l.length ≤ 12) && oksTo l l.length)) && (decide (lenAll l ≤ 3000000) && (inB lf 0 (lenAll l) && inB lu lf (lenAll l)))
structure Valid (l : List (Int × Int)) (lf lu : Int) : Prop where
  good : GoodL l
  some_ : 1 ≤ l.length
  len : lenAll l ≤ 3000000
  from_ : 0 ≤ lf ∧ lf ≤ lenAll l
  until_ : lf ≤ lu ∧ lu ≤ lenAll l
theorem trackB_iff {l : List (Int × Int)} {lf lu : Int} : trackB l lf lu = true ↔ Valid l lf lu := by
  unfold trackB
  simp only [Bool.and_eq_true, decide_eq_true_eq]
  constructor
  · rintro ⟨⟨h1, h2, h3⟩, h4, h5, h6⟩
    exact ⟨⟨h2, fun i hi => oksTo_at h3 i hi⟩, h1, h4, inB_iff.1 h5, inB_iff.1 h6⟩
  · intro h
    refine ⟨⟨h.some_, h.good.1, ?_⟩, h.len, inB_iff.2 h.from_, inB_iff.2 h.until_⟩
    have : ∀ k, k ≤ l.length → oksTo l k = true := by
      intro k
      induction k with
      | zero => intro _; rfl
      | succ k ih =>
        intro hk
        obtain ⟨a, b, c, d⟩ := h.good.2 k (by omega)
        simp only [oksTo, secOk, ih (by omega), inB_iff.2 ⟨a, b⟩, inB_iff.2 ⟨c, d⟩]; rfl
    exact this _ (Nat.le_refl _)
theorem trackB_short {l : List (Int × Int)} {lf lu : Int} (h : l.length = 0) : trackB l lf lu = false := by simp [trackB, h]
theorem trackB_long {l : List (Int × Int)} {lf lu : Int} (h : 12 < l.length) : trackB l lf lu = false := by
  have : decide (l.length ≤ 12) = false := by simp; omega
  simp [trackB, this]
theorem trackB_sec {l : List (Int × Int)} {lf lu : Int} {k : Nat} (hk : k < l.length) (h : secOk l k = false) : trackB l lf lu = false := by
  have : oksTo l l.length = false := oksTo_false (k := k + 1) (by simp [oksTo, h]) (by omega)
  simp [trackB, this]
theorem trackB_len {l : List (Int × Int)} {lf lu : Int} (h : ¬ lenAll l ≤ 3000000) : trackB l lf lu = false := by
  have : decide (lenAll l ≤ 3000000) = false := by simpa using h
  simp [trackB, this]
theorem trackB_from {l : List (Int × Int)} {lf lu : Int} (h : inB lf 0 (lenAll l) = false) : trackB l lf lu = false := by simp [trackB, h]
theorem trackB_until {l : List (Int × Int)} {lf lu : Int} (h : inB lu lf (lenAll l) = false) : trackB l lf lu = false := by simp [trackB, h]
theorem trackB_ok {l : List (Int × Int)} {lf lu : Int} (h1 : 0 < l.length) (h2 : l.length ≤ 12) (h3 : oksTo l l.length = true) (h4 : lenAll l ≤ 3000000) (h5 : inB lf 0 (lenAll l) = true) (h6 : inB lu lf (lenAll l) = true) : trackB l lf lu = true := by
  have : 1 ≤ l.length := h1
  simp [trackB, h2, h3, h4, h5, h6, this]
end Go.Proofs.YtomkldkmaabbnaaDoor.TrkP
