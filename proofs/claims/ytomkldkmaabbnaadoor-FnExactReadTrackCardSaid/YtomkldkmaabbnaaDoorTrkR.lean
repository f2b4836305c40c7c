/- Rows of sections that are marked and read again: the walks of the laws' mark and held. -/
import Derived.Test.YtomkldkmaabbnaaDoorTrkE
namespace Go.Proofs.YtomkldkmaabbnaaDoor.TrkR
open Go.RowKit Go.Proofs.YtomkldkmaabbnaaDoor.Plain Go.Proofs.YtomkldkmaabbnaaDoor.TrkP Go.Proofs.YtomkldkmaabbnaaDoor.WalkA Go.Proofs.YtomkldkmaabbnaaDoor.TrkA Go.Proofs.YtomkldkmaabbnaaDoor.TrkB Go.Proofs.YtomkldkmaabbnaaDoor.TrkC Go.Proofs.YtomkldkmaabbnaaDoor.TrkD Go.Proofs.YtomkldkmaabbnaaDoor.TrkE

/-- The first n sections of a row bear the numbers from 1 on. -/
def Marks (cs : Array Value) (n : Nat) : Prop := ∀ j : Nat, j < n → cs[j * 2]? = some (.int .i64 (1 + 2 * (j : Int))) ∧ cs[j * 2 + 1]? = some (.int .i64 (1 + 2 * (j : Int) + 1))
theorem Marks.step {cs : Array Value} {k n : Nat} (h : Marks cs k) (hs : n * 2 ≤ cs.size) (hk : k < n) :
    Marks ((cs.setIfInBounds (k * 2) (.int .i64 (1 + 2 * (k : Int)))).setIfInBounds (k * 2 + 1) (.int .i64 (1 + 2 * (k : Int) + 1))) (k + 1) := by
  intro j hj
  by_cases e : j = k
  · subst e
    constructor
    · rw [Array.getElem?_setIfInBounds_ne (by omega), Array.getElem?_setIfInBounds_self_of_lt (by omega)]
    · rw [Array.getElem?_setIfInBounds_self_of_lt (by simp; omega)]
  · obtain ⟨a, b⟩ := h j (by omega)
    rw [Array.getElem?_setIfInBounds_ne (by omega), Array.getElem?_setIfInBounds_ne (by omega), Array.getElem?_setIfInBounds_ne (by omega), Array.getElem?_setIfInBounds_ne (by omega)]
    exact ⟨a, b⟩
theorem grown_refl (w : World) (r : Option Nat) : w.grownBy w r := ⟨rfl, rfl, rfl, Nat.le_refl _, fun _ _ _ => rfl⟩
theorem grown_set {w w' : World} {g : Nat} (h : w.grownBy w' (some g)) (i : Nat) (u : Value) : w.grownBy (w'.setCell ⟨g, i, none⟩ u) (some g) :=
  ⟨h.os, h.tape, h.output, by simpa [World.setCell] using h.size, fun k hk hne => (Below.heap_setCell _ _ _ _ (fun e => hne (by rw [e]))).trans (h.block k hk hne)⟩
theorem grown_trans {w w' w'' : World} {r : Option Nat} (h : w.grownBy w' r) (k : w'.grownBy w'' r) : w.grownBy w'' r :=
  ⟨k.os.trans h.os, k.tape.trans h.tape, k.output.trans h.output, Nat.le_trans h.size k.size, fun i hi hne => (k.block i (Nat.lt_of_lt_of_le hi h.size) hne).trans (h.block i hi hne)⟩
theorem grown_below {w w' : World} (h : Below w.heap.size w w') (r : Option Nat) : w.grownBy w' r := ⟨h.os, h.tape, h.output, h.size, fun k hk _ => h.block k hk⟩
theorem markSecs_any (g c n : Nat) (t : TypeId) (cs : Array Value) (w : World) (hr : RowAt w g t cs) (hc : n * 2 ≤ cs.size) (hn : n ≤ 1048576) :
    Calls Tryd.prog 18 #[.slice (some ⟨g, 0, none⟩) n c, .int .i64 1] w fun e w' => ∃ cs', e = .returned (.int .i64 (1 + 2 * (n : Int))) ∧ RowAt w' g t cs' ∧ cs'.size = cs.size ∧ Marks cs' n ∧ w.grownBy w' (some g) := by
  have HR := Lib.hid hr
  have HC := Lib.hid hc
  clear hr hc
  go_enter Tryd.func18, Tryd.ntmps18
  go_wp2
  go_loopw [1, 5] (fun q i wr => ∃ (k : Nat) (cs' : Array Value), k ≤ n ∧ i = .int .i64 k ∧ q = .int .i64 (1 + 2 * (k : Int)) ∧ Hid (RowAt wr g t cs') ∧ Hid (cs'.size = cs.size) ∧ Hid (Marks cs' k) ∧ Hid (w.grownBy wr (some g))) (fun _ i _ => n - (intOf i).toNat)
  case atStart => exact ⟨0, cs, Nat.zero_le _, rfl, rfl, HR, rfl, fun j hj => by omega, grown_refl _ _⟩
  case round =>
    obtain ⟨k, cs', hk, rfl, rfl, hrow, hsz, hm, hgr⟩ := hrel
    by_cases hlt : k < n
    · have q1 : wr.cell? ⟨g, k * 2, none⟩ = some (cs'[k * 2]'(by have := hsz.out; have := HC.out; omega)) := by rw [hrow.out.cell]; exact Array.getElem?_eq_getElem _
      have q2 : wr.cell? ⟨g, k * 2 + 1, none⟩ = some (cs'[k * 2 + 1]'(by have := hsz.out; have := HC.out; omega)) := by rw [hrow.out.cell]; exact Array.getElem?_eq_getElem _
      have q3 := hrow.out.frozen (k * 2)
      have q4 := hrow.out.frozen (k * 2 + 1)
      go_wp2
      go_roundw
      case rel => exact ⟨k + 1, _, by omega, by go_num, by go_num, (hrow.out.store _ _).store _ _, by show _ = _; simpa using hsz.out, hm.out.step (by have := hsz.out; have := HC.out; omega) hlt, grown_set (grown_set hgr.out _ _) _ _⟩
      case measure => simp [intOf]; omega
    · have e : k = n := by omega
      subst e
      go_wp2
      go_ret
      exact ⟨cs', rfl, hrow.out, hsz.out, hm.out, hgr.out⟩
theorem markNil_any (A : Option Addr) (c : Nat) (w : World) :
    Calls Tryd.prog 18 #[.slice A 0 c, .int .i64 1] w fun e w' => e = .returned (.int .i64 1) ∧ w = w' := by
  go_enter Tryd.func18, Tryd.ntmps18
  go_wp2
  go_loop [1, 5] (fun q i => i = .int .i64 0 ∧ q = .int .i64 1) (fun _ i => 0)
  case atStart => exact ⟨rfl, rfl⟩
  case round =>
    obtain ⟨rfl, rfl⟩ := hrel
    go_wp2
    go_ret
    exact ⟨rfl, rfl⟩
theorem heldSecs_any (A : Option Addr) (c n : Nat) (w : World) (hA : 0 < n → ∃ g, A = some ⟨g, 0, none⟩ ∧ ∀ j : Nat, j < n → w.cell? ⟨g, j * 2, none⟩ = some (.int .i64 (1 + 2 * (j : Int))) ∧ w.cell? ⟨g, j * 2 + 1, none⟩ = some (.int .i64 (1 + 2 * (j : Int) + 1))) (hn : n ≤ 1048576) :
    Calls Tryd.prog 19 #[.slice A n c, .int .i64 1] w fun e w' => e = .returned (.int .i64 (1 + 2 * (n : Int))) ∧ w = w' := by
  have HA := Lib.hid hA
  clear hA
  go_enter Tryd.func19, Tryd.ntmps19
  go_wp2
  go_loop [1, 5] (fun q i => ∃ k : Nat, k ≤ n ∧ i = .int .i64 k ∧ q = .int .i64 (1 + 2 * (k : Int))) (fun _ i => n - (intOf i).toNat)
  case atStart => exact ⟨0, Nat.zero_le _, rfl, rfl⟩
  case round =>
    obtain ⟨k, hk, rfl, rfl⟩ := hrel
    by_cases hlt : k < n
    · obtain ⟨g, rfl, hc⟩ := HA.out (by omega)
      obtain ⟨c1, c2⟩ := hc k hlt
      clear hc
      go_wp2
      go_round
      case rel => exact ⟨k + 1, by omega, by go_num, by go_num⟩
      case measure => simp [intOf]; omega
    · have e : k = n := by omega
      subst e
      go_wp2
      go_ret
      exact ⟨rfl, rfl⟩
theorem markTrack_any (g c n : Nat) (lf lu : Int) (t : TypeId) (cs : Array Value) (w : World) (hr : RowAt w g t cs) (hc : n * 2 ≤ cs.size) (hn : n ≤ 1048576) :
    Calls Tryd.prog 7 #[.agg #[.slice (some ⟨g, 0, none⟩) n c, .int .i64 lf, .int .i64 lu], .int .i64 1] w fun e w' => ∃ cs', e = .returned (.int .i64 (1 + 2 * (n : Int))) ∧ RowAt w' g t cs' ∧ cs'.size = cs.size ∧ Marks cs' n ∧ w.grownBy w' (some g) := by
  have hb := (Below.refl w.heap.size w).alloc (Nat.le_refl _) (.cells #[.slice (some ⟨g, 0, none⟩) n c, .int .i64 lf, .int .i64 lu] 24)
  have HM := Lib.hid (markSecs_any g c n t cs _ (hr.below hb hr.lt) hc hn)
  have HB := Lib.hid (grown_below hb (some g))
  clear hb hr hc
  go_enter Tryd.func7, Tryd.ntmps7
  go_wp2_with (go_at_call 18; refine HM.out.mono ?_; rintro e w1 ⟨cs', rfl, h1, h2, h3, h4⟩)
  go_ret
  exact ⟨cs', rfl, h1, h2, h3, grown_trans HB.out h4⟩
theorem markTrackNil_any (A : Option Addr) (c : Nat) (lf lu : Int) (w : World) :
    Calls Tryd.prog 7 #[.agg #[.slice A 0 c, .int .i64 lf, .int .i64 lu], .int .i64 1] w fun e w' => e = .returned (.int .i64 1) ∧ Below w.heap.size w w' := by
  have HB := Lib.hid ((Below.refl w.heap.size w).alloc (Nat.le_refl _) (.cells #[.slice A 0 c, .int .i64 lf, .int .i64 lu] 24))
  go_enter Tryd.func7, Tryd.ntmps7
  go_wp2_with (go_at_call 18; refine (markNil_any _ _ _).mono ?_; rintro e w1 ⟨rfl, rfl⟩)
  go_ret
  exact ⟨rfl, HB.out⟩
theorem heldTrack_any (A : Option Addr) (c n : Nat) (lf lu : Int) (w : World) (hA : 0 < n → ∃ g, A = some ⟨g, 0, none⟩ ∧ g < w.heap.size ∧ ∀ j : Nat, j < n → w.cell? ⟨g, j * 2, none⟩ = some (.int .i64 (1 + 2 * (j : Int))) ∧ w.cell? ⟨g, j * 2 + 1, none⟩ = some (.int .i64 (1 + 2 * (j : Int) + 1))) (hn : n ≤ 1048576) :
    Calls Tryd.prog 8 #[.agg #[.slice A n c, .int .i64 lf, .int .i64 lu], .int .i64 1] w fun e w' => e = .returned (.int .i64 (1 + 2 * (n : Int))) ∧ Below w.heap.size w w' := by
  have hb := (Below.refl w.heap.size w).alloc (Nat.le_refl _) (.cells #[.slice A n c, .int .i64 lf, .int .i64 lu] 24)
  have HM := Lib.hid (heldSecs_any A c n (w.alloc (.cells #[.slice A n c, .int .i64 lf, .int .i64 lu] 24)) (fun h => by
    obtain ⟨g, e, hg, hc⟩ := hA h
    exact ⟨g, e, fun j hj => ⟨(hb.cell (p := ⟨g, j * 2, none⟩) hg).trans (hc j hj).1, (hb.cell (p := ⟨g, j * 2 + 1, none⟩) hg).trans (hc j hj).2⟩⟩) hn)
  have HB := Lib.hid hb
  clear hb hA
  go_enter Tryd.func8, Tryd.ntmps8
  go_wp2_with (go_at_call 19; refine HM.out.mono ?_; rintro e w1 ⟨rfl, rfl⟩)
  go_ret
  exact ⟨rfl, HB.out⟩
end Go.Proofs.YtomkldkmaabbnaaDoor.TrkR
