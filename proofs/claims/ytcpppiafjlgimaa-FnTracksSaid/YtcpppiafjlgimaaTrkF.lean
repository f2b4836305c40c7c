/- The walks of heights, grades and sections at a place, program and reference. -/
import Derived.Test.YtcpppiafjlgimaaTrkE
namespace Go.Proofs.Ytcpppiafjlgimaa.TrkF
open Go.RowKit Go.Proofs.Ytcpppiafjlgimaa.Plain Go.Proofs.Ytcpppiafjlgimaa.TrkP Go.Proofs.Ytcpppiafjlgimaa.WalkA Go.Proofs.Ytcpppiafjlgimaa.TrkA Go.Proofs.Ytcpppiafjlgimaa.TrkB Go.Proofs.Ytcpppiafjlgimaa.TrkC Go.Proofs.Ytcpppiafjlgimaa.TrkD Go.Proofs.Ytcpppiafjlgimaa.TrkE

/-- The lesser one of two numbers. -/
def minI (a b : Int) : Int := if a < b then a else b
theorem minI_le {a b : Int} : minI a b ≤ a ∧ minI a b ≤ b ∧ (minI a b = a ∨ minI a b = b) := by unfold minI; split <;> omega
/-- What is left of a way behind k sections, and the rise so far. -/
def remTo (l : List (Int × Int)) (x : Int) : Nat → Int
  | 0 => x
  | k + 1 => remTo l x k - minI (remTo l x k) (secL l k)
def riseTo (l : List (Int × Int)) (x : Int) : Nat → Int
  | 0 => 0
  | k + 1 => riseTo l x k + minI (remTo l x k) (secL l k) * secG l k
def hAt (l : List (Int × Int)) (x : Int) : Int := riseTo l x l.length / 1000
theorem remTo_bd {l : List (Int × Int)} {x : Int} (hg : GoodL l) (hx : 0 ≤ x) (k : Nat) (hk : k ≤ l.length) : 0 ≤ remTo l x k ∧ remTo l x k ≤ x := by
  induction k with
  | zero => exact ⟨hx, Int.le_refl _⟩
  | succ k ih =>
    obtain ⟨h1, h2⟩ := ih (by omega)
    obtain ⟨g1, _, _, _⟩ := hg.2 k (by omega)
    have := minI_le (a := remTo l x k) (b := secL l k)
    simp only [remTo]
    omega
theorem part_bd {l : List (Int × Int)} {x : Int} (hg : GoodL l) (hx : 0 ≤ x) (k : Nat) (hk : k < l.length) : 0 ≤ minI (remTo l x k) (secL l k) ∧ minI (remTo l x k) (secL l k) ≤ 3000000 ∧ 0 ≤ minI (remTo l x k) (secL l k) * secG l k ∧ minI (remTo l x k) (secL l k) * secG l k ≤ 2700000000 := by
  obtain ⟨h1, h2⟩ := remTo_bd hg hx k (by omega)
  obtain ⟨g1, g2, g3, g4⟩ := hg.2 k hk
  have := minI_le (a := remTo l x k) (b := secL l k)
  have a1 : 0 ≤ minI (remTo l x k) (secL l k) := by omega
  have a2 : minI (remTo l x k) (secL l k) ≤ 3000000 := by omega
  have a3 : minI (remTo l x k) (secL l k) * secG l k ≤ 3000000 * 900 := Int.mul_le_mul a2 g4 g3 (by omega)
  exact ⟨a1, a2, Int.mul_nonneg a1 g3, by omega⟩
theorem riseTo_bd {l : List (Int × Int)} {x : Int} (hg : GoodL l) (hx : 0 ≤ x) (k : Nat) (hk : k ≤ l.length) : 0 ≤ riseTo l x k ∧ riseTo l x k ≤ 2700000000 * k := by
  induction k with
  | zero => simp [riseTo]
  | succ k ih =>
    obtain ⟨h1, h2⟩ := ih (by omega)
    obtain ⟨_, _, p1, p2⟩ := part_bd hg hx k (by omega)
    simp only [riseTo]
    omega
theorem riseTo_bds {l : List (Int × Int)} {x : Int} (hg : GoodL l) (hx : 0 ≤ x) (k : Nat) (hk : k ≤ l.length) : 0 ≤ riseTo l x k ∧ riseTo l x k ≤ 32400000000 := by
  have := riseTo_bd hg hx k hk
  have := hg.1
  omega
theorem hAt_bds {l : List (Int × Int)} {x : Int} (hg : GoodL l) (hx : 0 ≤ x) : 0 ≤ hAt l x ∧ hAt l x ≤ 32400000 := by
  have := riseTo_bds hg hx l.length (Nat.le_refl _)
  unfold hAt
  omega

theorem specMin_any (a b : Int) (w : World) : Calls Try.prog 39 #[.int .i64 a, .int .i64 b] w fun e w' => e = .returned (.int .i64 (minI a b)) ∧ w = w' := by
  by_cases h : a < b
  · have HE : Hid (a = minI a b) := by show _ = _; unfold minI; rw [if_pos h]
    go_enter Try.func39, Try.ntmps39
    go_wp2
    go_ret
    exact ⟨ret_int HE.out, rfl⟩
  · have HE : Hid (b = minI a b) := by show _ = _; unfold minI; rw [if_neg h]
    go_enter Try.func39, Try.ntmps39
    go_wp2
    go_ret
    exact ⟨ret_int HE.out, rfl⟩
theorem specHeight_any (p : Nat) (A : Option Addr) (n c : Nat) (l : List (Int × Int)) (x : Int) (B : Nat) (w : World) (h0 : w.cell? ⟨p, 0, none⟩ = some (.slice A n c)) (hs : Secs w B A n l) (hg : GoodL l) (hx : 0 ≤ x ∧ x ≤ 36000000) :
    Calls Try.prog 32 #[.pointer (some ⟨p, 0, none⟩), .int .i64 x] w fun e w' => e = .returned (.int .i64 (hAt l x)) ∧ w = w' := by
  obtain ⟨rfl, hs2⟩ := hs
  have HG := Lib.hid hg
  have HS := Lib.hid hs2
  have h12 := hg.1
  obtain ⟨x1, x2⟩ := hx
  clear hg hs2
  go_enter Try.func32, Try.ntmps32
  go_wp2
  go_loop [1, 5, 6] (fun y s i => ∃ k : Nat, k ≤ l.length ∧ i = .int .i64 k ∧ y = .int .i64 (remTo l x k) ∧ s = .int .i64 (riseTo l x k)) (fun _ _ i => l.length - (intOf i).toNat)
  case atStart => exact ⟨0, Nat.zero_le _, rfl, rfl, rfl⟩
  case round =>
    obtain ⟨k, hk, rfl, rfl, rfl⟩ := hrel
    obtain ⟨b1, b2⟩ := riseTo_bds HG.out x1 k hk
    obtain ⟨r1, r2⟩ := remTo_bd HG.out x1 k hk
    by_cases hlt : k < l.length
    · obtain ⟨b, off, rfl, _, hc⟩ := HS.out (by omega)
      obtain ⟨c1, c2⟩ := hc k hlt
      obtain ⟨g1, g2, g3, g4⟩ := HG.out.2 k hlt
      obtain ⟨p1, p2, p3, p4⟩ := part_bd HG.out x1 k hlt
      have HN : Hid (riseTo l x (k + 1) = riseTo l x k + minI (remTo l x k) (secL l k) * secG l k) := rfl
      have HM : Hid (remTo l x (k + 1) = remTo l x k - minI (remTo l x k) (secL l k)) := rfl
      clear hc
      go_wp2_with (go_at_call 39; refine (specMin_any _ _ _).mono ?_; rintro e w' ⟨rfl, rfl⟩)
      go_round
      case rel => exact ⟨k + 1, by omega, by go_num, by rw [HM.out], by rw [HN.out]⟩
      case measure => simp [intOf]; omega
    · have e : k = l.length := by omega
      have HE := Lib.hid e
      clear e
      go_wp2
      go_ret
      exact ⟨ret_int (by rw [HE.out]; rfl), rfl⟩
theorem heightAt_any (A : Option Addr) (n c : Nat) (lf lu : Int) (l : List (Int × Int)) (x : Int) (w : World) (hs : Secs w w.heap.size A n l) (hg : GoodL l) (hx : 0 ≤ x ∧ x ≤ 36000000) :
    Calls Try.prog 27 #[.agg #[.slice A n c, .int .i64 lf, .int .i64 lu], .int .i64 x] w fun e w' => e = .returned (.int .i64 (hAt l x)) ∧ Below w.heap.size w w' := by
  have HS := Lib.hid hs
  have HG := Lib.hid hg
  have h12 := hg.1
  obtain ⟨rfl, _⟩ := hs
  obtain ⟨x1, x2⟩ := hx
  clear hg
  have HB := Lib.hid ((Below.refl w.heap.size w).alloc (Nat.le_refl _) (.cells #[.slice A l.length c, .int .i64 lf, .int .i64 lu] 26))
  go_enter Try.func27, Try.ntmps27
  go_wp2
  go_loopw [1, 5, 12] (fun y s i wr => ∃ k : Nat, k ≤ l.length ∧ i = .int .i64 k ∧ y = .int .i64 (remTo l x k) ∧ s = .int .i64 (riseTo l x k) ∧ Below w.heap.size w wr) (fun _ _ i _ => l.length - (intOf i).toNat)
  case atStart => exact ⟨0, Nat.zero_le _, rfl, rfl, rfl, HB.out⟩
  case round =>
    obtain ⟨k, hk, rfl, rfl, rfl, hbr⟩ := hrel
    have HBR := Lib.hid hbr
    obtain ⟨b1, b2⟩ := riseTo_bds HG.out x1 k hk
    obtain ⟨r1, r2⟩ := remTo_bd HG.out x1 k hk
    by_cases hlt : k < l.length
    · obtain ⟨b, off, rfl, hb, hc⟩ := (HS.out.below hbr hbr.size).2 (by omega)
      obtain ⟨c1, c2⟩ := hc k hlt
      obtain ⟨g1, g2, g3, g4⟩ := HG.out.2 k hlt
      obtain ⟨p1, p2, p3, p4⟩ := part_bd HG.out x1 k hlt
      clear hc hbr
      by_cases hm : secL l k < remTo l x k
      · have em : minI (remTo l x k) (secL l k) = secL l k := by unfold minI; rw [if_neg (by omega)]
        have HN : Hid (riseTo l x (k + 1) = riseTo l x k + secL l k * secG l k) := by show riseTo l x k + minI (remTo l x k) (secL l k) * secG l k = _; rw [em]
        have HM : Hid (remTo l x (k + 1) = remTo l x k - secL l k) := by show remTo l x k - minI (remTo l x k) (secL l k) = _; rw [em]
        rw [em] at p1 p2 p3 p4
        clear em
        go_wp2
        go_roundw
        case rel => exact ⟨k + 1, by omega, by go_num, by rw [HM.out], by rw [HN.out], (HBR.out.alloc HBR.out.size _)⟩
        case measure => simp [intOf]; omega
      · have em : minI (remTo l x k) (secL l k) = remTo l x k := by unfold minI; split <;> omega
        have HN : Hid (riseTo l x (k + 1) = riseTo l x k + remTo l x k * secG l k) := by show riseTo l x k + minI (remTo l x k) (secL l k) * secG l k = _; rw [em]
        have HM : Hid (remTo l x (k + 1) = remTo l x k - remTo l x k) := by show remTo l x k - minI (remTo l x k) (secL l k) = _; rw [em]
        rw [em] at p1 p2 p3 p4
        clear em
        go_wp2
        go_roundw
        case rel => exact ⟨k + 1, by omega, by go_num, by rw [HM.out]; go_num, by rw [HN.out], (HBR.out.alloc HBR.out.size _)⟩
        case measure => simp [intOf]; omega
    · have e : k = l.length := by omega
      have HE := Lib.hid e
      clear e hbr
      go_wp2
      go_ret
      exact ⟨ret_int (by rw [HE.out]; rfl), HBR.out⟩

/-! ### the section of a place -/
/-- k is the section of the place x. -/
def IsSec (l : List (Int × Int)) (x : Int) (k : Nat) : Prop := k < l.length ∧ (∀ j, j < k → lenTo l (j + 1) ≤ x) ∧ (k + 1 < l.length → x < lenTo l (k + 1))
theorem IsSec.same {l : List (Int × Int)} {x : Int} {k j : Nat} (h : IsSec l x k) (h' : IsSec l x j) : k = j := by
  have main : ∀ {k j : Nat}, IsSec l x k → IsSec l x j → ¬ k < j := by
    intro k j h h' hlt
    have a := h'.2.1 k hlt
    have b := h.2.2 (by have := h'.1; omega)
    omega
  have := main h h'
  have := main h' h
  omega
theorem secExists {l : List (Int × Int)} (hpos : 1 ≤ l.length) (x : Int) : ∃ k, IsSec l x k := by
  have main : ∀ f k, k < l.length → l.length = k + f → (∀ j, j < k → lenTo l (j + 1) ≤ x) → ∃ k, IsSec l x k := by
    intro f
    induction f with
    | zero => intro k hk e; omega
    | succ f ih =>
      intro k hk e hall
      by_cases h1 : k + 1 < l.length
      · by_cases h2 : x < lenTo l (k + 1)
        · exact ⟨k, hk, hall, fun _ => h2⟩
        · exact ih (k + 1) h1 (by omega) fun j hj => by
            by_cases ej : j = k
            · subst ej; omega
            · exact hall j (by omega)
      · exact ⟨k, hk, hall, fun h => absurd h h1⟩
  exact main l.length 0 (by omega) (by omega) fun j hj => by omega
theorem sectionAt_any (A : Option Addr) (n c : Nat) (lf lu : Int) (l : List (Int × Int)) (x : Int) (K : Nat) (w : World) (hs : Secs w w.heap.size A n l) (hg : GoodL l) (hx : 0 ≤ x ∧ x ≤ 36000000) (hk : IsSec l x K) :
    Calls Try.prog 37 #[.agg #[.slice A n c, .int .i64 lf, .int .i64 lu], .int .i64 x] w fun e w' => e = .returned (.int .i64 (K : Int)) ∧ Below w.heap.size w w' := by
  have HS := Lib.hid hs
  have HG := Lib.hid hg
  have HK := Lib.hid hk
  have h12 := hg.1
  have hpos := hk.1
  obtain ⟨rfl, _⟩ := hs
  obtain ⟨x1, x2⟩ := hx
  clear hg hk
  have HB := Lib.hid ((Below.refl w.heap.size w).alloc (Nat.le_refl _) (.cells #[.slice A l.length c, .int .i64 lf, .int .i64 lu] 26))
  obtain ⟨q0, _, _, _, q4⟩ := boxed w 26 (.slice A l.length c) (.int .i64 lf) (.int .i64 lu)
  have HC := Lib.hid q0
  have HZ := Lib.hid q4
  clear q0 q4
  go_enter Try.func37, Try.ntmps37
  go_wp2
  generalize w.alloc (.cells #[.slice A l.length c, .int .i64 lf, .int .i64 lu] 26) = W0 at *
  go_loopw [1, 10] (fun y i wr => ∃ k : Nat, k ≤ l.length ∧ i = .int .i64 k ∧ y = .int .i64 (x - lenTo l k) ∧ Hid (∀ j, j < k → lenTo l (j + 1) ≤ x) ∧ Below (w.heap.size + 1) W0 wr) (fun _ i _ => l.length - (intOf i).toNat)
  case atStart => exact ⟨0, Nat.zero_le _, rfl, by simp [lenTo], (fun j hj => by omega), Below.refl _ _⟩
  case round =>
    obtain ⟨k, hkl, rfl, rfl, hall, hbr⟩ := hrel
    have HBR := Lib.hid hbr
    have HBB : Hid (Below w.heap.size w wr) := HB.out.trans (hbr.mono (by omega))
    obtain ⟨b1, b2⟩ := lenTo_bds HG.out k hkl
    have r0 := (hbr.cell (p := ⟨w.heap.size, 0, none⟩) (show w.heap.size < _ by omega)).trans HC.out
    have hwr : w.heap.size + 1 ≤ wr.heap.size := by have := hbr.size; have := HZ.out; omega
    clear hbr
    by_cases hlt : k < l.length
    · obtain ⟨b, off, rfl, hb, hc⟩ := (HS.out.below HBB.out HBB.out.size).2 (by omega)
      obtain ⟨c1, c2⟩ := hc k hlt
      obtain ⟨g1, g2, g3, g4⟩ := HG.out.2 k hlt
      have HN : Hid (lenTo l (k + 1) = lenTo l k + secL l k) := rfl
      clear hc
      by_cases h2 : x - lenTo l k < secL l k
      · have hsec : IsSec l x k := ⟨hlt, hall.out, fun _ => by rw [HN.out]; omega⟩
        have HE := Lib.hid (hsec.same HK.out)
        clear hsec
        go_wp2
        go_ret
        exact ⟨ret_int (by rw [HE.out]), HBB.out.alloc (by omega) _⟩
      · go_wp2
        go_roundw
        case rel => exact ⟨k + 1, by omega, by go_num, by rw [HN.out]; go_num, (fun j hj => by
          by_cases ej : j = k
          · subst ej; rw [HN.out]; omega
          · exact hall.out j (by omega)), HBR.out.alloc (by omega) _⟩
        case measure => simp [intOf]; omega
    · have hsec : IsSec l x (l.length - 1) := ⟨by omega, fun j hj => hall.out j (by omega), fun h => by omega⟩
      have HE := Lib.hid (hsec.same HK.out)
      clear hsec
      go_wp2
      go_ret
      exact ⟨ret_int (by rw [← HE.out]; omega), HBB.out⟩
end Go.Proofs.Ytcpppiafjlgimaa.TrkF
