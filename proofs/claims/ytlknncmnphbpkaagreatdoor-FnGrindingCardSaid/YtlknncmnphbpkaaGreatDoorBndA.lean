/- The walks of bends, valid ones, and of the side of one, program and reference. -/
import Derived.Test.YtlknncmnphbpkaaGreatDoorWalkF
import Derived.Test.YtlknncmnphbpkaaGreatDoorWalkH
namespace Go.Proofs.YtlknncmnphbpkaaGreatDoor.BndA
open Go.RowKit Go.Proofs.YtlknncmnphbpkaaGreatDoor.Plain Go.Proofs.YtlknncmnphbpkaaGreatDoor.WalkA Go.Proofs.YtlknncmnphbpkaaGreatDoor.WalkB Go.Proofs.YtlknncmnphbpkaaGreatDoor.WalkC Go.Proofs.YtlknncmnphbpkaaGreatDoor.WalkF Go.Proofs.YtlknncmnphbpkaaGreatDoor.WalkH

/-- The whole bend is valid. -/
def bendB (s : ByteArray) (r l c : Int) : Bool := nameB s && (inB r 10000 10000000 && (inB l 1000 1000000 && inB c 0 200))
theorem bendB_iff {s : ByteArray} {r l c : Int} : bendB s r l c = true ↔ nameB s = true ∧ (10000 ≤ r ∧ r ≤ 10000000) ∧ (1000 ≤ l ∧ l ≤ 1000000) ∧ (0 ≤ c ∧ c ≤ 200) := by
  unfold bendB
  rw [Bool.and_eq_true, Bool.and_eq_true, Bool.and_eq_true, inB_iff, inB_iff, inB_iff]
theorem bend_a {s : ByteArray} {r l c : Int} (h : nameB s = false) : bendB s r l c = false := by simp [bendB, h]
theorem bend_b {s : ByteArray} {r l c : Int} (h : inB r 10000 10000000 = false) : bendB s r l c = false := by simp [bendB, h]
theorem bend_c {s : ByteArray} {r l c : Int} (h : inB l 1000 1000000 = false) : bendB s r l c = false := by simp [bendB, h]
theorem bend_d {s : ByteArray} {r l c : Int} (h1 : nameB s = true) (h2 : inB r 10000 10000000 = true) (h3 : inB l 1000 1000000 = true) : bendB s r l c = inB c 0 200 := by simp [bendB, h1, h2, h3]
/-- A box of four cells. -/
theorem boxed4 (w : World) (t : TypeId) (a b c d : Value) :
    (w.alloc (.cells #[a, b, c, d] t)).cell? ⟨w.heap.size, 0, none⟩ = some a ∧ (w.alloc (.cells #[a, b, c, d] t)).cell? ⟨w.heap.size, 1, none⟩ = some b ∧ (w.alloc (.cells #[a, b, c, d] t)).cell? ⟨w.heap.size, 2, none⟩ = some c ∧
    (w.alloc (.cells #[a, b, c, d] t)).cell? ⟨w.heap.size, 3, none⟩ = some d ∧ Below w.heap.size w (w.alloc (.cells #[a, b, c, d] t)) ∧ (w.alloc (.cells #[a, b, c, d] t)).heap.size = w.heap.size + 1 := by
  have h : (w.alloc (.cells #[a, b, c, d] t)).heap[w.heap.size]? = some (.cells #[a, b, c, d] t (0, 0)) := heap_alloc_new w _
  exact ⟨cell_of_row _ _ 0 _ _ _ h, cell_of_row _ _ 1 _ _ _ h, cell_of_row _ _ 2 _ _ _ h, cell_of_row _ _ 3 _ _ _ h, (Below.refl _ _).alloc (Nat.le_refl _) _, by simp⟩
theorem keepB {p : Nat} {W wc w2 : World} {v0 v1 v2 v3 : Value} (hp : p < W.heap.size) (h0 : wc.cell? ⟨p, 0, none⟩ = some v0) (h1 : wc.cell? ⟨p, 1, none⟩ = some v1) (h2 : wc.cell? ⟨p, 2, none⟩ = some v2) (h3 : wc.cell? ⟨p, 3, none⟩ = some v3)
    (hb : Below W.heap.size W wc) (h : Below wc.heap.size wc w2) :
    w2.cell? ⟨p, 0, none⟩ = some v0 ∧ w2.cell? ⟨p, 1, none⟩ = some v1 ∧ w2.cell? ⟨p, 2, none⟩ = some v2 ∧ w2.cell? ⟨p, 3, none⟩ = some v3 ∧ Below W.heap.size W w2 :=
  have hp' := Nat.lt_of_lt_of_le hp hb.size
  ⟨(h.cell (p := ⟨p, 0, none⟩) hp').trans h0, (h.cell (p := ⟨p, 1, none⟩) hp').trans h1, (h.cell (p := ⟨p, 2, none⟩) hp').trans h2, (h.cell (p := ⟨p, 3, none⟩) hp').trans h3, hb.trans (h.mono hb.size)⟩
theorem drew_down {w w' : World} (h : Drew w w') (B : Nat) : Below B w w' := h.below _
def vB (c : Bool) (v : Int) : Int := if c = true then v else 0
theorem vB_no (v : Int) : vB false v = 0 := rfl
theorem vB_yes (v : Int) : vB true v = v := rfl

theorem validBend_any (s : ByteArray) (r l c : Int) (hz : s.size ≤ 9223372036854775807) (w : World) :
    Calls Tryz.prog 22 #[.agg #[.string s, .int .i64 r, .int .i64 l, .int .i64 c]] w fun e w' => e = .returned (.bool (bendB s r l c)) ∧ Below w.heap.size w w' := by
  have HN := Lib.hid (fun W => implName_any s hz W)
  obtain ⟨q0, q1, q2, q3, q4, q5⟩ := boxed4 w 25 (.string s) (.int .i64 r) (.int .i64 l) (.int .i64 c)
  have HB := Lib.hid q4
  have hp : w.heap.size < (w.alloc (.cells #[.string s, .int .i64 r, .int .i64 l, .int .i64 c] 25)).heap.size := by omega
  clear q4 q5
  cases h1 : nameB s
  · rw [h1] at HN
    rw [bend_a h1]
    clear h1
    go_enter Tryz.func22, Tryz.ntmps22
    go_wp2_with fail
    generalize w.alloc (.cells #[.string s, .int .i64 r, .int .i64 l, .int .i64 c] 25) = W0 at *
    have HB2 : Hid (∀ W, Below W0.heap.size W0 W → Below w.heap.size w W) := fun W hW => HB.out.trans (hW.mono (by omega))
    have b := Below.refl W0.heap.size W0
    refine (HN.out _).mono ?_
    rintro e w1 ⟨rfl, hb⟩
    have z := keepB hp q0 q1 q2 q3 b hb
    clear q0 q1 q2 q3 b hb
    obtain ⟨q0, q1, q2, q3, b⟩ := z
    go_wp2_with fail
    go_ret
    exact ⟨rfl, HB2.out _ b⟩
  rw [h1] at HN
  cases h2 : inB r 10000 10000000
  · rw [bend_b h2]
    go_enter Tryz.func22, Tryz.ntmps22
    go_wp2_with fail
    generalize w.alloc (.cells #[.string s, .int .i64 r, .int .i64 l, .int .i64 c] 25) = W0 at *
    have HB2 : Hid (∀ W, Below W0.heap.size W0 W → Below w.heap.size w W) := fun W hW => HB.out.trans (hW.mono (by omega))
    have b := Below.refl W0.heap.size W0
    refine (HN.out _).mono ?_
    rintro e w1 ⟨rfl, hb⟩
    have z := keepB hp q0 q1 q2 q3 b hb
    clear q0 q1 q2 q3 b hb
    obtain ⟨q0, q1, q2, q3, b⟩ := z
    go_wp2_with fail
    refine (within_any _ _ _ _).mono ?_
    rintro e w2 ⟨rfl, rfl⟩
    go_wp2_with fail
    go_ret
    exact ⟨rfl, HB2.out _ b⟩
  cases h3 : inB l 1000 1000000
  · rw [bend_c h3]
    go_enter Tryz.func22, Tryz.ntmps22
    go_wp2_with fail
    generalize w.alloc (.cells #[.string s, .int .i64 r, .int .i64 l, .int .i64 c] 25) = W0 at *
    have HB2 : Hid (∀ W, Below W0.heap.size W0 W → Below w.heap.size w W) := fun W hW => HB.out.trans (hW.mono (by omega))
    have b := Below.refl W0.heap.size W0
    refine (HN.out _).mono ?_
    rintro e w1 ⟨rfl, hb⟩
    have z := keepB hp q0 q1 q2 q3 b hb
    clear q0 q1 q2 q3 b hb
    obtain ⟨q0, q1, q2, q3, b⟩ := z
    go_wp2_with fail
    refine (within_any _ _ _ _).mono ?_
    rintro e w2 ⟨rfl, rfl⟩
    go_wp2_with fail
    refine (within_any _ _ _ _).mono ?_
    rintro e w3 ⟨rfl, rfl⟩
    go_wp2_with fail
    go_ret
    exact ⟨rfl, HB2.out _ b⟩
  rw [bend_d h1 h2 h3]
  go_enter Tryz.func22, Tryz.ntmps22
  go_wp2_with fail
  generalize w.alloc (.cells #[.string s, .int .i64 r, .int .i64 l, .int .i64 c] 25) = W0 at *
  have HB2 : Hid (∀ W, Below W0.heap.size W0 W → Below w.heap.size w W) := fun W hW => HB.out.trans (hW.mono (by omega))
  have b := Below.refl W0.heap.size W0
  refine (HN.out _).mono ?_
  rintro e w1 ⟨rfl, hb⟩
  have z := keepB hp q0 q1 q2 q3 b hb
  clear q0 q1 q2 q3 b hb
  obtain ⟨q0, q1, q2, q3, b⟩ := z
  go_wp2_with fail
  refine (within_any _ _ _ _).mono ?_
  rintro e w2 ⟨rfl, rfl⟩
  go_wp2_with fail
  refine (within_any _ _ _ _).mono ?_
  rintro e w3 ⟨rfl, rfl⟩
  go_wp2_with fail
  refine (isCant_any _ _).mono ?_
  rintro e w4 ⟨rfl, rfl⟩
  go_wp2_with fail
  go_ret
  exact ⟨rfl, HB2.out _ b⟩

theorem one_any (p : Nat) (o : Nat) (s : ByteArray) (r l c : Int) (hz : s.size ≤ 9223372036854775807) (w : World) (h0 : w.cell? ⟨p, o, none⟩ = some (.string s)) (h1 : w.cell? ⟨p, o + 1, none⟩ = some (.int .i64 r)) (h2 : w.cell? ⟨p, o + 2, none⟩ = some (.int .i64 l)) (h3 : w.cell? ⟨p, o + 3, none⟩ = some (.int .i64 c)) :
    Calls Tryz.prog 34 #[.pointer (some ⟨p, o, none⟩)] w fun e w' => e = .returned (.bool (bendB s r l c)) ∧ w = w' := by
  have HN := Lib.hid (fun W => specName_any s hz W)
  cases k1 : nameB s
  · rw [k1] at HN
    rw [bend_a k1]
    clear k1
    go_enter Tryz.func34, Tryz.ntmps34
    go_wp2_with (first | (go_at_call 55; refine (HN.out _).mono ?_; rintro e w' ⟨rfl, rfl⟩) | (go_at_call 56; refine (in_any _ _ _ _).mono ?_; rintro e w' ⟨rfl, rfl⟩) | (go_at_call 57; refine (cant_any _ _).mono ?_; rintro e w' ⟨rfl, rfl⟩))
    go_ret
    exact ⟨rfl, rfl⟩
  rw [k1] at HN
  cases k2 : inB r 10000 10000000
  · rw [bend_b k2]
    go_enter Tryz.func34, Tryz.ntmps34
    go_wp2_with (first | (go_at_call 55; refine (HN.out _).mono ?_; rintro e w' ⟨rfl, rfl⟩) | (go_at_call 56; refine (in_any _ _ _ _).mono ?_; rintro e w' ⟨rfl, rfl⟩) | (go_at_call 57; refine (cant_any _ _).mono ?_; rintro e w' ⟨rfl, rfl⟩))
    go_ret
    exact ⟨rfl, rfl⟩
  cases k3 : inB l 1000 1000000
  · rw [bend_c k3]
    go_enter Tryz.func34, Tryz.ntmps34
    go_wp2_with (first | (go_at_call 55; refine (HN.out _).mono ?_; rintro e w' ⟨rfl, rfl⟩) | (go_at_call 56; refine (in_any _ _ _ _).mono ?_; rintro e w' ⟨rfl, rfl⟩) | (go_at_call 57; refine (cant_any _ _).mono ?_; rintro e w' ⟨rfl, rfl⟩))
    go_ret
    exact ⟨rfl, rfl⟩
  rw [bend_d k1 k2 k3]
  go_enter Tryz.func34, Tryz.ntmps34
  go_wp2_with (first | (go_at_call 55; refine (HN.out _).mono ?_; rintro e w' ⟨rfl, rfl⟩) | (go_at_call 56; refine (in_any _ _ _ _).mono ?_; rintro e w' ⟨rfl, rfl⟩) | (go_at_call 57; refine (cant_any _ _).mono ?_; rintro e w' ⟨rfl, rfl⟩))
  go_ret
  exact ⟨rfl, rfl⟩

/-- The code of SideOf. -/
def sofC (s : ByteArray) (r l c v : Int) : Int := if bendB s r l c = true then (if inB v 0 20000 = true then 0 else 2) else 1
def sofOk (s : ByteArray) (r l c v : Int) : Bool := bendB s r l c && inB v 0 20000
theorem sof_bad {s : ByteArray} {r l c v : Int} (h : bendB s r l c = false) : sofC s r l c v = 1 ∧ sofOk s r l c v = false := by simp [sofC, sofOk, h]
theorem sof_out {s : ByteArray} {r l c v : Int} (h : bendB s r l c = true) (k : inB v 0 20000 = false) : sofC s r l c v = 2 ∧ sofOk s r l c v = false := by simp [sofC, sofOk, h, k]
theorem sof_ok {s : ByteArray} {r l c v : Int} (h : bendB s r l c = true) (k : inB v 0 20000 = true) : sofC s r l c v = 0 ∧ sofOk s r l c v = true := by simp [sofC, sofOk, h, k]

end Go.Proofs.YtlknncmnphbpkaaGreatDoor.BndA
