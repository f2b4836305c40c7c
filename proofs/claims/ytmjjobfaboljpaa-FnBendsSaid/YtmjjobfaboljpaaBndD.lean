/- The walks of the least cant of a bend, program and reference. -/
import Derived.Test.YtmjjobfaboljpaaBndA
namespace Go.Proofs.Ytmjjobfaboljpaa.BndD
open Go.RowKit Go.Proofs.Ytmjjobfaboljpaa.Plain Go.Proofs.Ytmjjobfaboljpaa.WalkA Go.Proofs.Ytmjjobfaboljpaa.WalkB Go.Proofs.Ytmjjobfaboljpaa.WalkC Go.Proofs.Ytmjjobfaboljpaa.WalkF Go.Proofs.Ytmjjobfaboljpaa.WalkH Go.Proofs.Ytmjjobfaboljpaa.BndA

/-- The first number from k on, of f, of which p holds. -/
def firstN (p : Nat → Bool) : Nat → Nat → Nat
  | 0, k => k
  | f + 1, k => if p k = true then k else firstN p f (k + 1)
def IsFirst (p : Nat → Bool) (n R : Nat) : Prop := R ≤ n ∧ (∀ j, j < R → p j = false) ∧ (R < n → p R = true)
theorem firstN_is (p : Nat → Bool) (f k : Nat) (h : ∀ j, j < k → p j = false) : IsFirst p (k + f) (firstN p f k) := by
  induction f generalizing k with
  | zero => exact ⟨Nat.le_refl _, h, fun h => by simp [firstN] at h⟩
  | succ f ih =>
    unfold firstN
    split
    · exact ⟨by omega, h, fun _ => ‹_›⟩
    · have := ih (k + 1) (fun j hj => by
        by_cases e : j = k
        · subst e; exact Bool.not_eq_true _ ▸ ‹¬ p j = true›
        · exact h j (by omega))
      rw [show k + (f + 1) = k + 1 + f by omega]
      exact this
theorem IsFirst.same {p : Nat → Bool} {n R S : Nat} (h : IsFirst p n R) (h' : IsFirst p n S) : R = S := by
  rcases Nat.lt_trichotomy R S with c | c | c
  · have a := h'.2.1 R c
    have b := h.2.2 (Nat.lt_of_lt_of_le c h'.1)
    rw [a] at b; cases b
  · exact c
  · have a := h.2.1 S c
    have b := h'.2.2 (Nat.lt_of_lt_of_le c h.1)
    rw [a] at b; cases b
def cantP (r x y : Int) (k : Nat) : Bool := decide (sideI r k x ≤ y)
def cantN (r x y : Int) : Nat := firstN (cantP r x y) 201 0
theorem cantN_is (r x y : Int) : IsFirst (cantP r x y) 201 (cantN r x y) := firstN_is (cantP r x y) 201 0 (fun j hj => by omega)
def cfC (s : ByteArray) (r l c x y : Int) : Int := if bendB s r l c = true then (if (inB x 0 20000 && inB y 0 5000) = true then (if cantN r x y < 201 then 0 else 3) else 2) else 1
def cfV (s : ByteArray) (r l c x y : Int) : Int := if cfC s r l c x y = 0 then (cantN r x y : Int) else 0
theorem cf_bad {s : ByteArray} {r l c x y : Int} (h : bendB s r l c = false) : cfC s r l c x y = 1 ∧ cfV s r l c x y = 0 := by simp [cfV, cfC, h]
theorem cf_out {s : ByteArray} {r l c x y : Int} (h : bendB s r l c = true) (k : (inB x 0 20000 && inB y 0 5000) = false) : cfC s r l c x y = 2 ∧ cfV s r l c x y = 0 := by unfold cfV cfC; rw [h, k]; exact ⟨rfl, rfl⟩
def cvV (N : Nat) : Int := if N < 201 then (N : Int) else 0
def cvC (N : Nat) : Int := if N < 201 then 0 else 3
theorem cf_ok {s : ByteArray} {r l c x y : Int} (h : bendB s r l c = true) (k : inB x 0 20000 = true) (m : inB y 0 5000 = true) : cfC s r l c x y = cvC (cantN r x y) ∧ cfV s r l c x y = cvV (cantN r x y) := by
  have e : cfC s r l c x y = (if cantN r x y < 201 then 0 else 3) := by unfold cfC; rw [h, k, m]; rfl
  refine ⟨e, ?_⟩
  unfold cfV cvV
  rw [e]
  split <;> simp [*]
theorem pair_ok {N k : Nat} (e : N = k) (h : k < 201) : Ending.returned (.tuple #[.int .i64 (k : Int), .int .i64 0]) = .returned (.tuple #[.int .i64 (cvV N), .int .i64 (cvC N)]) := by subst e; unfold cvV cvC; rw [if_pos h, if_pos h]
theorem pair_no {N : Nat} (e : N = 201) : Ending.returned (.tuple #[.int .i64 0, .int .i64 3]) = .returned (.tuple #[.int .i64 (cvV N), .int .i64 (cvC N)]) := by subst e; rfl

theorem implCantFor_any (s : ByteArray) (r l c : Int) (x y : Int) (hz : s.size ≤ 9223372036854775807) (w : World) :
    Calls Try.prog 10 #[.agg #[.string s, .int .i64 r, .int .i64 l, .int .i64 c], .int .i64 x, .int .i64 y] w fun e w' => e = .returned (.tuple #[.int .i64 (cfV s r l c x y), .int .i64 (cfC s r l c x y)]) ∧ Below w.heap.size w w' := by
  have HV := Lib.hid (fun W => validBend_any s r l c hz W)
  obtain ⟨q0, q1, q2, q3, q4, q5⟩ := boxed4 w 25 (.string s) (.int .i64 r) (.int .i64 l) (.int .i64 c)
  have HB := Lib.hid q4
  have hp : w.heap.size < (w.alloc (.cells #[.string s, .int .i64 r, .int .i64 l, .int .i64 c] 25)).heap.size := by omega
  clear q4 q5
  cases hv : bendB s r l c
  · obtain ⟨e1, e2⟩ := cf_bad (x := x) (y := y) hv
    rw [hv] at HV
    rw [e1, e2]
    clear e1 e2
    go_enter Try.func10, Try.ntmps10
    go_wp2_with fail
    generalize w.alloc (.cells #[.string s, .int .i64 r, .int .i64 l, .int .i64 c] 25) = W0 at *
    have HB2 : Hid (∀ W, Below W0.heap.size W0 W → Below w.heap.size w W) := fun W hW => HB.out.trans (hW.mono (by omega))
    have b := Below.refl W0.heap.size W0
    refine (HV.out _).mono ?_
    rintro e w1 ⟨rfl, hb⟩
    have z := keepB hp q0 q1 q2 q3 b hb
    clear q0 q1 q2 q3 b hb
    obtain ⟨q0, q1, q2, q3, b⟩ := z
    go_wp2_with fail
    go_ret2
    exact ⟨rfl, HB2.out _ b⟩
  rw [hv] at HV
  cases hx : inB x 0 20000
  · obtain ⟨e1, e2⟩ := cf_out (x := x) (y := y) hv (by rw [hx]; rfl)
    rw [e1, e2]
    clear e1 e2
    go_enter Try.func10, Try.ntmps10
    go_wp2_with fail
    generalize w.alloc (.cells #[.string s, .int .i64 r, .int .i64 l, .int .i64 c] 25) = W0 at *
    have HB2 : Hid (∀ W, Below W0.heap.size W0 W → Below w.heap.size w W) := fun W hW => HB.out.trans (hW.mono (by omega))
    have b := Below.refl W0.heap.size W0
    refine (HV.out _).mono ?_
    rintro e w1 ⟨rfl, hb⟩
    have z := keepB hp q0 q1 q2 q3 b hb
    clear q0 q1 q2 q3 b hb
    obtain ⟨q0, q1, q2, q3, b⟩ := z
    go_wp2_with fail
    refine (isPace_any _ _).mono ?_
    rintro e w2 ⟨rfl, rfl⟩
    go_wp2_with fail
    go_ret2
    exact ⟨rfl, HB2.out _ b⟩
  cases hy : inB y 0 5000
  · obtain ⟨e1, e2⟩ := cf_out (x := x) (y := y) hv (by rw [hx, hy]; rfl)
    rw [e1, e2]
    clear e1 e2
    go_enter Try.func10, Try.ntmps10
    go_wp2_with fail
    generalize w.alloc (.cells #[.string s, .int .i64 r, .int .i64 l, .int .i64 c] 25) = W0 at *
    have HB2 : Hid (∀ W, Below W0.heap.size W0 W → Below w.heap.size w W) := fun W hW => HB.out.trans (hW.mono (by omega))
    have b := Below.refl W0.heap.size W0
    refine (HV.out _).mono ?_
    rintro e w1 ⟨rfl, hb⟩
    have z := keepB hp q0 q1 q2 q3 b hb
    clear q0 q1 q2 q3 b hb
    obtain ⟨q0, q1, q2, q3, b⟩ := z
    go_wp2_with fail
    refine (isPace_any _ _).mono ?_
    rintro e w2 ⟨rfl, rfl⟩
    go_wp2_with fail
    refine (isSide_any _ _).mono ?_
    rintro e w3 ⟨rfl, rfl⟩
    go_wp2_with fail
    go_ret2
    exact ⟨rfl, HB2.out _ b⟩
  obtain ⟨e1, e2⟩ := cf_ok hv hx hy
  rw [e1, e2]
  obtain ⟨_, hr, hl, hc⟩ := bendB_iff.1 hv
  have HN := Lib.hid (cantN_is r x y)
  clear e1 e2
  have HD := Lib.hid (fun (k : Nat) (hk : k < 201) W => side_any r k x ⟨by omega, by omega⟩ ⟨by omega, by omega⟩ (inB_iff.1 hx) W)
  clear hr hl hc
  go_enter Try.func10, Try.ntmps10
  go_wp2_with fail
  generalize w.alloc (.cells #[.string s, .int .i64 r, .int .i64 l, .int .i64 c] 25) = W0 at *
  have HB2 : Hid (∀ W, Below W0.heap.size W0 W → Below w.heap.size w W) := fun W hW => HB.out.trans (hW.mono (by omega))
  have b := Below.refl W0.heap.size W0
  refine (HV.out _).mono ?_
  rintro e w1 ⟨rfl, hb⟩
  have z := keepB hp q0 q1 q2 q3 b hb
  clear q0 q1 q2 q3 b hb
  obtain ⟨q0, q1, q2, q3, b⟩ := z
  go_wp2_with fail
  refine (isPace_any _ _).mono ?_
  rintro e w2 ⟨rfl, rfl⟩
  go_wp2_with fail
  refine (isSide_any _ _).mono ?_
  rintro e w3 ⟨rfl, rfl⟩
  have HQ := Lib.hid (And.intro q0 (And.intro q1 (And.intro q2 q3)))
  have BB := Lib.hid b
  clear q0 q1 q2 q3 b
  go_wp2_with fail
  go_loopw [8] (fun i wr => ∃ k : Nat, k ≤ 201 ∧ i = .int .i64 k ∧ Hid (∀ j, j < k → cantP r x y j = false) ∧ Hid (Below w1.heap.size w1 wr)) (fun i _ => 201 - (intOf i).toNat)
  case atStart => exact ⟨0, Nat.zero_le _, rfl, fun j hj => by omega, Below.refl _ _⟩
  case round =>
    obtain ⟨k, hk, rfl, hno, hbr⟩ := hrel
    have hp1 := Nat.lt_of_lt_of_le hp BB.out.size
    have r1 := (hbr.out.cell (p := ⟨w.heap.size, 1, none⟩) hp1).trans HQ.out.2.1
    by_cases hlt : k < 201
    · have hin : inB (k : Int) 0 200 = true := inB_iff.2 ⟨by omega, by omega⟩
      cases hp2 : cantP r x y k
      · have hs : ¬ sideI r k x ≤ y := of_decide_eq_false hp2
        have HF := Lib.hid hp2
        clear hp2
        go_wp2_with (first | (go_at_call 27; refine (isCant_any _ _).mono ?_; rintro e w' ⟨rfl, rfl⟩) | (go_at_call 25; refine (HD.out k hlt _).mono ?_; rintro e w5 ⟨rfl, hd⟩))
        go_roundw
        case rel => exact ⟨k + 1, by omega, by go_num, fun j hj => (by
          by_cases e : j = k
          · subst e; exact HF.out
          · exact hno.out j (by omega)), hbr.out.trans (drew_down hd _)⟩
        case measure => simp [intOf]; omega
      · have hs : sideI r k x ≤ y := of_decide_eq_true hp2
        have HF := Lib.hid (IsFirst.same HN.out ⟨by omega, hno.out, fun _ => hp2⟩)
        clear hp2
        go_wp2_with (first | (go_at_call 27; refine (isCant_any _ _).mono ?_; rintro e w' ⟨rfl, rfl⟩) | (go_at_call 25; refine (HD.out k hlt _).mono ?_; rintro e w5 ⟨rfl, hd⟩))
        go_ret2
        exact ⟨pair_ok HF.out hlt, HB2.out _ (BB.out.trans ((hbr.out.trans (drew_down hd _)).mono BB.out.size))⟩
    · have e : k = 201 := by omega
      subst e
      have hin : inB ((201 : Nat) : Int) 0 200 = false := by rfl
      have HF := Lib.hid (IsFirst.same HN.out ⟨Nat.le_refl _, hno.out, fun h => by omega⟩)
      go_wp2_with (go_at_call 27; refine (isCant_any _ _).mono ?_; rintro e w' ⟨rfl, rfl⟩)
      go_ret2
      exact ⟨pair_no HF.out, HB2.out _ (BB.out.trans (hbr.out.mono BB.out.size))⟩

end Go.Proofs.Ytmjjobfaboljpaa.BndD
