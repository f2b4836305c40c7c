/- New tracks whose sections the call itself has made: what owns them, and how they are marked. -/
import Derived.Test.YtomkldkmaabbnaaDoorTrkR
import Derived.Deep.AppendLies
import Derived.Laws.OwnMore
namespace Go.Proofs.YtomkldkmaabbnaaDoor.TrkS
open Go.RowKit Go.Proofs.YtomkldkmaabbnaaDoor.Plain Go.Proofs.YtomkldkmaabbnaaDoor.TrkP Go.Proofs.YtomkldkmaabbnaaDoor.WalkA Go.Proofs.YtomkldkmaabbnaaDoor.TrkA Go.Proofs.YtomkldkmaabbnaaDoor.TrkB Go.Proofs.YtomkldkmaabbnaaDoor.TrkC Go.Proofs.YtomkldkmaabbnaaDoor.TrkD Go.Proofs.YtomkldkmaabbnaaDoor.TrkE Go.Proofs.YtomkldkmaabbnaaDoor.TrkR

/-- The cells of a list of sections. -/
def flat : List (Int × Int) → List Value
  | [] => []
  | p :: l => .int .i64 p.1 :: .int .i64 p.2 :: flat l
theorem flat_length (l : List (Int × Int)) : (flat l).length = l.length * 2 := by
  induction l with
  | nil => rfl
  | cons p l ih => simp only [flat, List.length_cons, ih]; omega
theorem flat_append (a b : List (Int × Int)) : flat (a ++ b) = flat a ++ flat b := by
  induction a with
  | nil => rfl
  | cons p l ih => simp [flat, ih]
theorem flat_at : ∀ (l : List (Int × Int)) (i : Nat), i < l.length → (flat l)[i * 2]? = some (.int .i64 (secL l i)) ∧ (flat l)[i * 2 + 1]? = some (.int .i64 (secG l i))
  | [], i, h => by simp at h
  | p :: l, 0, _ => ⟨rfl, rfl⟩
  | p :: l, i + 1, h => by
    obtain ⟨a, b⟩ := flat_at l i (by simpa using h)
    have e : (i + 1) * 2 = i * 2 + 1 + 1 := by omega
    have f : secL (p :: l) (i + 1) = secL l i := rfl
    have g : secG (p :: l) (i + 1) = secG l i := rfl
    rw [f, g, e]
    exact ⟨a, b⟩
theorem flat_one (l : List (Int × Int)) : ∀ u ∈ flat l, u.oneCell' = true := by
  induction l with
  | nil => simp [flat]
  | cons p l ih =>
    intro u hu
    simp only [flat, List.mem_cons] at hu
    rcases hu with rfl | rfl | hu
    · rfl
    · rfl
    · exact ih u hu

/-- A slice of sections that owns its row, in a block from B on. -/
def OwnT (w : World) (B : Nat) (A : Option Addr) (n : Nat) (l : List (Int × Int)) : Prop :=
  l.length = n ∧ (0 < n → ∃ (g : Nat) (cs : Array Value), A = some ⟨g, 0, none⟩ ∧ B ≤ g ∧ RowAt w g 35 cs ∧ n * 2 ≤ cs.size ∧ ∀ i, i < n → cs[i * 2]? = some (.int .i64 (secL l i)) ∧ cs[i * 2 + 1]? = some (.int .i64 (secG l i)))
theorem OwnT.of_row {w : World} {B : Nat} {v : Value} {l : List (Int × Int)} (h : w.ownsRow B 35 2 v l.length (flat l)) :
    ∃ A c, v = .slice A l.length c ∧ OwnT w B A l.length l := by
  obtain ⟨_, h | h⟩ := h
  · obtain ⟨rfl, h0⟩ := h
    rw [h0]
    exact ⟨none, 0, rfl, h0, fun hn => by omega⟩
  · obtain ⟨g, cap, cur, rfl, hB, hg, hn, _, hs, ht⟩ := h
    refine ⟨some ⟨g, 0, none⟩, cap, rfl, rfl, fun _ => ⟨g, cur, rfl, hB, hg, by omega, fun i hi => ?_⟩⟩
    obtain ⟨a, b⟩ := flat_at l i hi
    rw [← ht] at a b
    rw [List.getElem?_take_of_lt (by omega)] at a b
    exact ⟨by simpa using a, by simpa using b⟩
theorem OwnT.secs {w : World} {B : Nat} {A : Option Addr} {n : Nat} {l : List (Int × Int)} (h : OwnT w B A n l) : Secs w w.heap.size A n l :=
  ⟨h.1, fun hn => by
    obtain ⟨g, cs, e, _, hr, _, hc⟩ := h.2 hn
    refine ⟨g, 0, e, hr.lt, fun i hi => ?_⟩
    obtain ⟨a, b⟩ := hc i hi
    rw [hr.cell, hr.cell]
    simp only [Nat.zero_add]
    exact ⟨a, b⟩⟩
theorem OwnT.below {w w' : World} {B : Nat} {A : Option Addr} {n : Nat} {l : List (Int × Int)} (h : OwnT w B A n l) (hb : Below w.heap.size w w') : OwnT w' B A n l :=
  ⟨h.1, fun hn => by
    obtain ⟨g, cs, e, hB, hr, hs, hc⟩ := h.2 hn
    exact ⟨g, cs, e, hB, hr.below hb hr.lt, hs, hc⟩⟩
theorem RowAt.grown {w w' : World} {g : Nat} {t : TypeId} {cs : Array Value} {r : Option Nat} (h : RowAt w g t cs) (hg : w.grownBy w' r) (hne : r ≠ some g) : RowAt w' g t cs :=
  (hg.block g h.lt (fun e => hne e.symm)).trans h
theorem OwnT.grown {w w' : World} {B : Nat} {A : Option Addr} {n : Nat} {l : List (Int × Int)} {r : Option Nat} (h : OwnT w B A n l) (hg : w.grownBy w' r) (hne : ∀ g, A = some ⟨g, 0, none⟩ → B ≤ g → g < w.heap.size → 0 < n → r ≠ some g) : OwnT w' B A n l :=
  ⟨h.1, fun hn => by
    obtain ⟨g, cs, e, hB, hr, hs, hc⟩ := h.2 hn
    exact ⟨g, cs, e, hB, RowAt.grown hr hg (hne g e hB hr.lt hn), hs, hc⟩⟩
/-- A slice of sections whose cells bear the marks. -/
def MarkedT (w : World) (A : Option Addr) (n : Nat) : Prop := 0 < n → ∃ g, A = some ⟨g, 0, none⟩ ∧ g < w.heap.size ∧ ∀ j : Nat, j < n → w.cell? ⟨g, j * 2, none⟩ = some (.int .i64 (1 + 2 * (j : Int))) ∧ w.cell? ⟨g, j * 2 + 1, none⟩ = some (.int .i64 (1 + 2 * (j : Int) + 1))
theorem MarkedT.below {w w' : World} {A : Option Addr} {n : Nat} (h : MarkedT w A n) (hb : Below w.heap.size w w') : MarkedT w' A n := fun hn => by
  obtain ⟨g, e, hg, hc⟩ := h hn
  exact ⟨g, e, Nat.lt_of_lt_of_le hg hb.size, fun j hj => ⟨(hb.cell (p := ⟨g, j * 2, none⟩) hg).trans (hc j hj).1, (hb.cell (p := ⟨g, j * 2 + 1, none⟩) hg).trans (hc j hj).2⟩⟩
/-- The block that marking turns. -/
def markRow (A : Option Addr) (n : Nat) : Option Nat := if n = 0 then none else A.map (·.block)
theorem markRow_ne {A : Option Addr} {n g : Nat} (h : ∀ g', A = some ⟨g', 0, none⟩ → 0 < n → g' ≠ g) {w : World} {B : Nat} {l : List (Int × Int)} (ho : OwnT w B A n l) : markRow A n ≠ some g := by
  unfold markRow
  by_cases hn : n = 0
  · rw [if_pos hn]; simp
  · obtain ⟨g', _, e, _⟩ := ho.2 (by omega)
    rw [if_neg hn, e]
    simp only [Option.map_some]
    intro q
    injection q with q
    exact h g' e (by omega) q
theorem markT_any (A : Option Addr) (c n : Nat) (lf lu : Int) (B : Nat) (l : List (Int × Int)) (w : World) (ho : OwnT w B A n l) (hn : n ≤ 1048576) :
    Calls Tryd.prog 7 #[.agg #[.slice A n c, .int .i64 lf, .int .i64 lu], .int .i64 1] w fun e w' => e = .returned (.int .i64 (1 + 2 * (n : Int))) ∧ MarkedT w' A n ∧ w.grownBy w' (markRow A n) := by
  by_cases h0 : n = 0
  · subst h0
    refine (markTrackNil_any A c lf lu w).mono ?_
    rintro e w' ⟨rfl, hb⟩
    exact ⟨rfl, fun h => by omega, grown_below hb _⟩
  · obtain ⟨g, cs, rfl, _, hr, hs, _⟩ := ho.2 (by omega)
    refine (markTrack_any g c n lf lu _ cs w hr hs hn).mono ?_
    rintro e w' ⟨cs', rfl, hr', hs', hm, hg⟩
    refine ⟨rfl, fun _ => ⟨g, rfl, hr'.lt, fun j hj => ?_⟩, by unfold markRow; rw [if_neg h0]; exact hg⟩
    rw [hr'.cell, hr'.cell]
    exact hm j hj
theorem heldT_any (A : Option Addr) (c n : Nat) (lf lu : Int) (w : World) (hm : MarkedT w A n) (hn : n ≤ 1048576) :
    Calls Tryd.prog 8 #[.agg #[.slice A n c, .int .i64 lf, .int .i64 lu], .int .i64 1] w fun e w' => e = .returned (.int .i64 (1 + 2 * (n : Int))) ∧ Below w.heap.size w w' :=
  heldTrack_any A c n lf lu w hm hn

/-- A new track in memory of the call's own, and a code. -/
def NewTrk (w : World) (l : List (Int × Int)) (lf lu code : Int) (e : Ending) (w' : World) : Prop :=
  ∃ A c, e = .returned (.tuple #[.agg #[.slice A l.length c, .int .i64 lf, .int .i64 lu], .int .i64 code]) ∧ OwnT w' w.heap.size A l.length l ∧ Below w.heap.size w w'
end Go.Proofs.YtomkldkmaabbnaaDoor.TrkS
