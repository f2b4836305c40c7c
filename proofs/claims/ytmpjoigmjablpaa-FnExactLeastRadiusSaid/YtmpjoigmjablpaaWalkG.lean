/- The walks of LeastRadius, program and reference. -/
import Derived.Test.YtmpjoigmjablpaaWalkF
namespace Go.Proofs.Ytmpjoigmjablpaa.WalkG
open Go.RowKit Go.Proofs.Ytmpjoigmjablpaa.Plain Go.Proofs.Ytmpjoigmjablpaa.WalkA Go.Proofs.Ytmpjoigmjablpaa.WalkB Go.Proofs.Ytmpjoigmjablpaa.WalkC Go.Proofs.Ytmpjoigmjablpaa.WalkF

theorem radV_no (r : Int) : radV false r = .tuple #[.int .i64 0, .int .i64 2] := by simp [radV]
theorem radV_out {r : Int} (h : 10000000 < r) : radV true r = .tuple #[.int .i64 0, .int .i64 3] := by simp [radV, h]
theorem radV_in {r : Int} (h : ¬ 10000000 < r) : radV true r = .tuple #[.int .i64 r, .int .i64 0] := by simp [radV, h]
theorem Drew.here {w w' : World} (h : Drew w w') : Below w.heap.size w w' := h.below _
theorem radClosure_at (B : Nat) (v c m : Int) (W W' : World) (hc : 0 ≤ c ∧ c ≤ 200) (hv : 0 ≤ v ∧ v ≤ 20000) (hB : B + 2 < W.heap.size)
    (h1 : W.cell? ⟨B, 0, none⟩ = some (.int .i64 v)) (h2 : W.cell? ⟨B + 1, 0, none⟩ = some (.int .i64 c)) (h3 : W.cell? ⟨B + 2, 0, none⟩ = some (.int .i64 m)) (hb : Below W.heap.size W W') (n : Int) (n1 : 10000 ≤ n) (n2 : n ≤ 10000000) :
    Calls Try.prog 75 (#[.int .i64 n] ++ #[.pointer (some ⟨B + 1, 0, none⟩), .pointer (some ⟨B, 0, none⟩), .pointer (some ⟨B + 2, 0, none⟩)]) W' fun e W'' => e = .returned (.bool (radP v c m n)) ∧ Below W'.heap.size W' W'' :=
  (radClosure_any (B + 1) B (B + 2) v c m n ⟨n1, n2⟩ hc hv W' ((hb.cell (p := ⟨B + 1, 0, none⟩) (show B + 1 < _ by omega)).trans h2) ((hb.cell (p := ⟨B, 0, none⟩) (show B < _ by omega)).trans h1) ((hb.cell (p := ⟨B + 2, 0, none⟩) (show B + 2 < _ by omega)).trans h3)).mono fun _ _ h => ⟨h.1, Drew.here h.2⟩
theorem radLeast_any (B : Nat) (v c m r : Int) (W : World) (hc : 0 ≤ c ∧ c ≤ 200) (hv : 0 ≤ v ∧ v ≤ 20000) (hr : Turn (radP v c m) 10000 10000000 r) (hB : B + 2 < W.heap.size)
    (h1 : W.cell? ⟨B, 0, none⟩ = some (.int .i64 v)) (h2 : W.cell? ⟨B + 1, 0, none⟩ = some (.int .i64 c)) (h3 : W.cell? ⟨B + 2, 0, none⟩ = some (.int .i64 m)) :
    Calls Try.prog 74 #[.int .i64 10000, .int .i64 10000000, .func (.func 75) #[] #[.pointer (some ⟨B + 1, 0, none⟩), .pointer (some ⟨B, 0, none⟩), .pointer (some ⟨B + 2, 0, none⟩)]] W fun e w' => e = .returned (.int .i64 r) ∧ Below W.heap.size W w' :=
  least_any 75 _ (enters_of Try.func75 (by kernel_rfl) rfl) (radP v c m) 10000 10000000 r (by omega) (by omega) (by omega) radP_rises hr W
    (fun W' n hb n1 n2 => radClosure_at B v c m W W' hc hv hB h1 h2 h3 hb n n1 n2)

theorem implLeastRadius_any (v c m r : Int) (hr : radB v c m = true → Turn (radP v c m) 10000 10000000 r) (w : World) :
    Calls Try.prog 42 #[.int .i64 v, .int .i64 c, .int .i64 m] w fun e w' => e = .returned (radV (radB v c m) r) ∧ Below w.heap.size w w' := by
  have hmf : ∀ (fn : Fn) (first cap : Array Value) (w : World), (Instr.makeFunc fn first cap).run Try.prog w = .ok (.func fn first cap) w := fun _ _ _ _ => rfl
  have hbw : ∀ o1 o2 o3 : Obj, Below w.heap.size w (((w.alloc o1).alloc o2).alloc o3) := fun o1 o2 o3 => (((Below.refl _ _).alloc (Nat.le_refl _) _).alloc (by simp) _).alloc (by simp; omega) _
  have HB := Lib.hid hbw
  clear hbw
  cases k1 : inB v 0 20000
  · have hs : radB v c m = false := by simp [radB, k1]
    rw [hs, radV_no]
    clear hr hs
    go_enter Try.func42, Try.ntmps42
    go_wp2_with (go_at_call 71; refine (isPace_any _ _).mono ?_; rintro e w' ⟨rfl, rfl⟩)
    go_ret2
    exact ⟨rfl, HB.out _ _ _⟩
  cases k2 : inB c 0 200
  · have hs : radB v c m = false := by simp [radB, k2]
    rw [hs, radV_no]
    clear hr hs
    go_enter Try.func42, Try.ntmps42
    go_wp2_with (first | (go_at_call 71; refine (isPace_any _ _).mono ?_; rintro e w' ⟨rfl, rfl⟩) | (go_at_call 72; refine (isCant_any _ _).mono ?_; rintro e w' ⟨rfl, rfl⟩))
    go_ret2
    exact ⟨rfl, HB.out _ _ _⟩
  cases k3 : inB m 0 5000
  · have hs : radB v c m = false := by simp [radB, k3]
    rw [hs, radV_no]
    clear hr hs
    go_enter Try.func42, Try.ntmps42
    go_wp2_with (first | (go_at_call 71; refine (isPace_any _ _).mono ?_; rintro e w' ⟨rfl, rfl⟩) | (go_at_call 72; refine (isCant_any _ _).mono ?_; rintro e w' ⟨rfl, rfl⟩) | (go_at_call 73; refine (isSide_any _ _).mono ?_; rintro e w' ⟨rfl, rfl⟩))
    go_ret2
    exact ⟨rfl, HB.out _ _ _⟩
  · have hs : radB v c m = true := by simp [radB, k1, k2, k3]
    have hv := inB_iff.1 k1
    have hc := inB_iff.1 k2
    have HL := Lib.hid (fun W => radLeast_any w.heap.size v c m r W hc hv (hr hs))
    clear hr hv hc
    rw [hs]
    clear hs
    by_cases ho : 10000000 < r
    · rw [radV_out ho]
      go_enter Try.func42, Try.ntmps42
      go_wp2_with (first | (go_at_call 71; refine (isPace_any _ _).mono ?_; rintro e w' ⟨rfl, rfl⟩) | (go_at_call 72; refine (isCant_any _ _).mono ?_; rintro e w' ⟨rfl, rfl⟩) | (go_at_call 73; refine (isSide_any _ _).mono ?_; rintro e w' ⟨rfl, rfl⟩) | (go_at_call 74; refine (HL.out _ ?_ ?_ ?_ ?_).mono ?_; (simp); (go_simp); (go_simp); (go_simp); rintro e w1 ⟨rfl, hb⟩))
      go_ret2
      exact ⟨rfl, (HB.out _ _ _).trans (hb.mono (by simp; omega))⟩
    · rw [radV_in ho]
      go_enter Try.func42, Try.ntmps42
      go_wp2_with (first | (go_at_call 71; refine (isPace_any _ _).mono ?_; rintro e w' ⟨rfl, rfl⟩) | (go_at_call 72; refine (isCant_any _ _).mono ?_; rintro e w' ⟨rfl, rfl⟩) | (go_at_call 73; refine (isSide_any _ _).mono ?_; rintro e w' ⟨rfl, rfl⟩) | (go_at_call 74; refine (HL.out _ ?_ ?_ ?_ ?_).mono ?_; (simp); (go_simp); (go_simp); (go_simp); rintro e w1 ⟨rfl, hb⟩))
      go_ret2
      exact ⟨rfl, (HB.out _ _ _).trans (hb.mono (by simp; omega))⟩

theorem specLeastRadius_any (v c m r : Int) (hr : radB v c m = true → Turn (radP v c m) 10000 10000000 r) (w : World) :
    Calls Try.prog 41 #[.int .i64 v, .int .i64 c, .int .i64 m] w fun e w' => e = .returned (radV (radB v c m) r) ∧ w = w' := by
  cases k1 : inB v 0 20000
  · have hs : radB v c m = false := by simp [radB, k1]
    rw [hs, radV_no]
    clear hr hs
    go_enter Try.func41, Try.ntmps41
    go_wp2_with (go_at_call 67; refine (speed_any _ _).mono ?_; rintro e w' ⟨rfl, rfl⟩)
    go_ret2
    exact ⟨rfl, rfl⟩
  cases k2 : inB c 0 200
  · have hs : radB v c m = false := by simp [radB, k2]
    rw [hs, radV_no]
    clear hr hs
    go_enter Try.func41, Try.ntmps41
    go_wp2_with (first | (go_at_call 67; refine (speed_any _ _).mono ?_; rintro e w' ⟨rfl, rfl⟩) | (go_at_call 68; refine (cant_any _ _).mono ?_; rintro e w' ⟨rfl, rfl⟩))
    go_ret2
    exact ⟨rfl, rfl⟩
  cases k3 : inB m 0 5000
  · have hs : radB v c m = false := by simp [radB, k3]
    rw [hs, radV_no]
    clear hr hs
    go_enter Try.func41, Try.ntmps41
    go_wp2_with (first | (go_at_call 67; refine (speed_any _ _).mono ?_; rintro e w' ⟨rfl, rfl⟩) | (go_at_call 68; refine (cant_any _ _).mono ?_; rintro e w' ⟨rfl, rfl⟩) | (go_at_call 69; refine (most_any _ _).mono ?_; rintro e w' ⟨rfl, rfl⟩))
    go_ret2
    exact ⟨rfl, rfl⟩
  · have hs : radB v c m = true := by simp [radB, k1, k2, k3]
    have hv := inB_iff.1 k1
    have hc := inB_iff.1 k2
    have HR := Lib.hid (hr hs)
    clear hr
    rw [hs]
    clear hs
    obtain ⟨v1, v2⟩ := hv
    obtain ⟨c1, c2⟩ := hc
    go_enter Try.func41, Try.ntmps41
    go_wp2_with (first | (go_at_call 67; refine (speed_any _ _).mono ?_; rintro e w' ⟨rfl, rfl⟩) | (go_at_call 68; refine (cant_any _ _).mono ?_; rintro e w' ⟨rfl, rfl⟩) | (go_at_call 69; refine (most_any _ _).mono ?_; rintro e w' ⟨rfl, rfl⟩))
    go_loop [8, 9] (fun s t => ∃ a b : Int, s = .int .i64 a ∧ t = .int .i64 b ∧ 9999 ≤ a ∧ a < b ∧ b ≤ 10000001 ∧ Hid (9999 < a → radP v c m a = false) ∧ Hid (b < 10000001 → radP v c m b = true)) (fun s t => (intOf t - intOf s).toNat)
    case atStart => exact ⟨9999, 10000001, rfl, rfl, by omega, by omega, by omega, fun h => by omega, fun h => by omega⟩
    case round =>
      obtain ⟨a, b, rfl, rfl, a1, a2, a3, ha, hb⟩ := hrel
      by_cases hlt : 1 < b - a
      · by_cases hle : sideI ((a + b) / 2) c v ≤ m
        · have HF : Hid (radP v c m ((a + b) / 2) = true) := decide_eq_true hle
          go_wp2_with (go_at_call 70; refine (specSide_any _ _ _ (by omega) (by omega) (by omega) _).mono ?_; rintro e w' ⟨rfl, rfl⟩)
          go_round
          case rel => exact ⟨_, _, rfl, rfl, by omega, by omega, by omega, ha, fun _ => HF.out⟩
          case measure => simp [intOf]; omega
        · have HF : Hid (radP v c m ((a + b) / 2) = false) := decide_eq_false hle
          go_wp2_with (go_at_call 70; refine (specSide_any _ _ _ (by omega) (by omega) (by omega) _).mono ?_; rintro e w' ⟨rfl, rfl⟩)
          go_round
          case rel => exact ⟨_, _, rfl, rfl, by omega, by omega, by omega, fun _ => HF.out, hb⟩
          case measure => simp [intOf]; omega
      · have e : b = r := by
          have hab : a = b - 1 := by omega
          subst hab
          exact Turn.same radP_rises ⟨by omega, by omega, fun h => ha.out (by omega), fun h => hb.out (by omega)⟩ HR.out
        subst e
        by_cases ho : 10000000 < b
        · go_wp2
          go_ret2
          exact ⟨congrArg Ending.returned (radV_out ho).symm, rfl⟩
        · go_wp2
          go_ret2
          exact ⟨congrArg Ending.returned (radV_in (by omega)).symm, rfl⟩
end Go.Proofs.Ytmpjoigmjablpaa.WalkG
