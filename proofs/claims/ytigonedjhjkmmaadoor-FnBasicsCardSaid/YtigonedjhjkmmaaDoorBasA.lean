/- Walks for the law on basics: the two numbers drawn, an absolute value, two equal lists; the list of five. -/
import Derived.Test.YtigonedjhjkmmaaDoorSrcA
import Derived.Test.YtigonedjhjkmmaaDoorBasP
namespace Go.Proofs.YtigonedjhjkmmaaDoor.BasA
set_option maxRecDepth 100000
open Go.RowKit Go.Proofs.YtigonedjhjkmmaaDoor.Plain Go.Proofs.YtigonedjhjkmmaaDoor.WalkA Go.Proofs.YtigonedjhjkmmaaDoor.TxtA Go.Proofs.YtigonedjhjkmmaaDoor.TxtC Go.Proofs.YtigonedjhjkmmaaDoor.TxtG Go.Proofs.YtigonedjhjkmmaaDoor.TxtR
open Go.Proofs.YtigonedjhjkmmaaDoor.SrcA (Bys But Src Choice pick_any from_any)
theorem mul_bd {x y : Int} (hx : 0 ≤ x ∧ x ≤ 59999) (hy : 0 ≤ y ∧ y ≤ 59999) : 0 ≤ x * y ∧ x * y ≤ 3599880001 := by
  have a := Int.mul_nonneg hx.1 hy.1
  have b := Int.mul_le_mul hx.2 hy.2 hy.1 (by omega)
  omega
theorem r8Numbers_any (A : Option Addr) (n c : Nat) (w : World) (hb : Bys w w.heap.size A n) (hn : n ≤ 1048576) :
    Calls Tryd.prog 5 #[.slice A n c] w fun e w' => ∃ a b, -100000 ≤ a ∧ a ≤ 3600000000 ∧ 1 ≤ b ∧ b ≤ 5000 ∧ e = .returned (.tuple #[.int .i64 a, .int .i64 b]) ∧ Below w.heap.size w w' := by
  have HF := Lib.hid (from_any A n c w hb hn)
  have H1 := Lib.hid (fun W => pick_any w.heap.size A n c 0 (by omega) 60000 (by omega) W)
  have H2 := Lib.hid (fun W => pick_any w.heap.size A n c 2 (by omega) 60000 (by omega) W)
  have H3 := Lib.hid (fun W => pick_any w.heap.size A n c 4 (by omega) 5000 (by omega) W)
  clear hb
  go_enter Tryd.func5, Tryd.ntmps5
  go_wp2_with fail
  refine HF.out.mono ?_
  rintro e w1 ⟨rfl, hs1, hb1, hz1⟩
  go_wp2_with fail
  refine (H1.out _ hs1).mono ?_
  rintro e w2 ⟨x, x0, x1, rfl, hs2, hb2, hz2⟩
  go_wp2_with fail
  refine (H2.out _ hs2).mono ?_
  rintro e w3 ⟨y, y0, y1, rfl, hs3, hb3, hz3⟩
  obtain ⟨m0, m1⟩ := mul_bd (x := x) (y := y) (by omega) (by omega)
  go_wp2_with fail
  refine (H3.out _ hs3).mono ?_
  rintro e w4 ⟨z, z0, z1, rfl, hs4, hb4, hz4⟩
  go_wp2_with fail
  go_ret2
  exact ⟨x * y - 100000, 1 + z, by omega, by omega, by omega, by omega, rfl, hb1.trans (((hb2.trans hb3).trans hb4).below (Nat.le_refl _) (by omega))⟩
theorem r8Abs_any (x : Int) (hx : -10000000 ≤ x ∧ x ≤ 10000000) (w : World) : Calls Tryd.prog 8 #[.int .i64 x] w fun e w' => e = .returned (.int .i64 (absI x)) ∧ w = w' := by
  go_enter Tryd.func8, Tryd.ntmps8
  go_wp2
  all_goals
    go_ret
    exact ⟨SrcA.ret64 (by unfold absI; split <;> omega), rfl⟩
theorem r8Same_any (A A' : Option Addr) (n c c' : Nat) (l : List Int) (w : World) (hs : Ints w w.heap.size A n l) (hs' : Ints w w.heap.size A' n l) (hn : n ≤ 1048576) :
    Calls Tryd.prog 15 #[.slice A n c, .slice A' n c'] w fun e w' => e = .returned (.bool true) ∧ ∃ m, w' = w.drewN m := by
  have HS := Lib.hid hs
  have HS' := Lib.hid hs'
  obtain ⟨rfl, _⟩ := hs
  clear hs'
  go_enter Tryd.func15, Tryd.ntmps15
  go_wp2
  go_loopw [5] (fun i wr => ∃ k m : Nat, k ≤ l.length ∧ i = .int .i64 k ∧ wr = w.drewN m) (fun i _ => l.length - (intOf i).toNat)
  case atStart => exact ⟨0, 0, Nat.zero_le _, rfl, rfl⟩
  case round =>
    obtain ⟨k, m, hk, rfl, rfl⟩ := hrel
    by_cases hlt : k < l.length
    · obtain ⟨b, off, rfl, hb, hc⟩ := HS.out.2.2 (by omega)
      obtain ⟨b', off', rfl, hb', hc'⟩ := HS'.out.2.2 (by omega)
      have c1 := hc k hlt
      have c2 := hc' k hlt
      clear hc hc'
      go_wp2
      go_quiet (fail)
      go_wp2
      go_roundw
      case rel => exact ⟨k + 1, _, by omega, by go_num, rfl⟩
      case measure => simp [intOf]; omega
    · have e : k = l.length := by omega
      subst e
      go_wp2
      go_ret
      exact ⟨rfl, _, rfl⟩
theorem five_at {a b x y z : Int} (ha : -1000000000000 ≤ a ∧ a ≤ 1000000000000) (hb : -1000000000000 ≤ b ∧ b ≤ 1000000000000) (hx : -1000000000000 ≤ x ∧ x ≤ 1000000000000) (hy : -1000000000000 ≤ y ∧ y ≤ 1000000000000) (hz : -1000000000000 ≤ z ∧ z ≤ 1000000000000) :
    ∀ k, k < 5 → -1000000000000 ≤ iAt [a, b, x, y, z] k ∧ iAt [a, b, x, y, z] k ≤ 1000000000000 := fun k hk => by
  have : k = 0 ∨ k = 1 ∨ k = 2 ∨ k = 3 ∨ k = 4 := by omega
  rcases this with rfl | rfl | rfl | rfl | rfl
  · exact ha
  · exact hb
  · exact hx
  · exact hy
  · exact hz
theorem five_fits {l : List Int} (hl : l.length = 5) (h : ∀ k, k < 5 → -1000000000000 ≤ iAt l k ∧ iAt l k ≤ 1000000000000) : fits l = true := by
  have hb : bad l = false := bad_none fun k hk => inB_iff.2 (h k (by omega))
  unfold fits
  rw [hb, hl]
  rfl
theorem five_size {l : List Int} (hl : l.length = 5) (h : ∀ k, k < 5 → -1000000000000 ≤ iAt l k ∧ iAt l k ≤ 1000000000000) : (listT l).size ≤ 110 := by
  have a := jn_size (l := l) (fun k hk => by have := h k (by omega); omega) 5 (by omega)
  have e0 := jn_list (l := l) (by omega)
  rw [hl] at e0
  unfold listT
  rw [if_pos (five_fits hl h)]
  have e : jn l 5 = listP l := by rw [e0]; unfold listP; first | rfl | (rw [if_neg (by omega)]; rfl) | (rw [if_pos (by omega)]; rfl) | (cases l with | nil => simp at hl | cons x t => rfl)
  rw [← e]
  exact a
theorem five_ints (W : World) (a b x y z : Int) (h : ∀ k, k < 5 → -1000000000000 ≤ iAt [a, b, x, y, z] k ∧ iAt [a, b, x, y, z] k ≤ 1000000000000) :
    Ints (W.alloc (.cells #[.int .i64 a, .int .i64 b, .int .i64 x, .int .i64 y, .int .i64 z] 2)) (W.alloc (.cells #[.int .i64 a, .int .i64 b, .int .i64 x, .int .i64 y, .int .i64 z] 2)).heap.size (some ⟨W.heap.size, 0, none⟩) 5 [a, b, x, y, z] := by
  have hrow := heap_alloc_new W (.cells #[.int .i64 a, .int .i64 b, .int .i64 x, .int .i64 y, .int .i64 z] 2)
  refine ⟨rfl, fun k hk => ?_, fun _ => ⟨W.heap.size, 0, rfl, by simp, fun k hk => ?_⟩⟩
  · have := h k hk
    omega
  · rw [Nat.zero_add]
    have : k = 0 ∨ k = 1 ∨ k = 2 ∨ k = 3 ∨ k = 4 := by omega
    rcases this with rfl | rfl | rfl | rfl | rfl
    · exact cell_of_row _ _ 0 _ _ _ hrow
    · exact cell_of_row _ _ 1 _ _ _ hrow
    · exact cell_of_row _ _ 2 _ _ _ hrow
    · exact cell_of_row _ _ 3 _ _ _ hrow
    · exact cell_of_row _ _ 4 _ _ _ hrow
end Go.Proofs.YtigonedjhjkmmaaDoor.BasA
