/- The walks of LeastRadius, program and reference. -/
import Derived.Test.YtmjjobfaboljpaaWalkF
namespace Go.Proofs.Ytmjjobfaboljpaa.WalkG
open Go.RowKit Go.Proofs.Ytmjjobfaboljpaa.Plain Go.Proofs.Ytmjjobfaboljpaa.WalkA Go.Proofs.Ytmjjobfaboljpaa.WalkB Go.Proofs.Ytmjjobfaboljpaa.WalkC Go.Proofs.Ytmjjobfaboljpaa.WalkF

theorem radV_no (r : Int) : radV false r = .tuple #[.int .i64 0, .int .i64 2] := by simp [radV]
theorem radV_out {r : Int} (h : 10000000 < r) : radV true r = .tuple #[.int .i64 0, .int .i64 3] := by simp [radV, h]
theorem radV_in {r : Int} (h : ¬ 10000000 < r) : radV true r = .tuple #[.int .i64 r, .int .i64 0] := by simp [radV, h]
theorem Drew.here {w w' : World} (h : Drew w w') : Below w.heap.size w w' := h.below _
theorem radClosure_at (B : Nat) (v c m : Int) (W W' : World) (hc : 0 ≤ c ∧ c ≤ 200) (hv : 0 ≤ v ∧ v ≤ 20000) (hB : B + 2 < W.heap.size)
    (h1 : W.cell? ⟨B, 0, none⟩ = some (.int .i64 v)) (h2 : W.cell? ⟨B + 1, 0, none⟩ = some (.int .i64 c)) (h3 : W.cell? ⟨B + 2, 0, none⟩ = some (.int .i64 m)) (hb : Below W.heap.size W W') (n : Int) (n1 : 10000 ≤ n) (n2 : n ≤ 10000000) :
    Calls Try.prog 30 (#[.int .i64 n] ++ #[.pointer (some ⟨B + 1, 0, none⟩), .pointer (some ⟨B, 0, none⟩), .pointer (some ⟨B + 2, 0, none⟩)]) W' fun e W'' => e = .returned (.bool (radP v c m n)) ∧ Below W'.heap.size W' W'' :=
  (radClosure_any (B + 1) B (B + 2) v c m n ⟨n1, n2⟩ hc hv W' ((hb.cell (p := ⟨B + 1, 0, none⟩) (show B + 1 < _ by omega)).trans h2) ((hb.cell (p := ⟨B, 0, none⟩) (show B < _ by omega)).trans h1) ((hb.cell (p := ⟨B + 2, 0, none⟩) (show B + 2 < _ by omega)).trans h3)).mono fun _ _ h => ⟨h.1, Drew.here h.2⟩
theorem radLeast_any (B : Nat) (v c m r : Int) (W : World) (hc : 0 ≤ c ∧ c ≤ 200) (hv : 0 ≤ v ∧ v ≤ 20000) (hr : Turn (radP v c m) 10000 10000000 r) (hB : B + 2 < W.heap.size)
    (h1 : W.cell? ⟨B, 0, none⟩ = some (.int .i64 v)) (h2 : W.cell? ⟨B + 1, 0, none⟩ = some (.int .i64 c)) (h3 : W.cell? ⟨B + 2, 0, none⟩ = some (.int .i64 m)) :
    Calls Try.prog 29 #[.int .i64 10000, .int .i64 10000000, .func (.func 30) #[] #[.pointer (some ⟨B + 1, 0, none⟩), .pointer (some ⟨B, 0, none⟩), .pointer (some ⟨B + 2, 0, none⟩)]] W fun e w' => e = .returned (.int .i64 r) ∧ Below W.heap.size W w' :=
  least_any 30 _ (enters_of Try.func30 (by kernel_rfl) rfl) (radP v c m) 10000 10000000 r (by omega) (by omega) (by omega) radP_rises hr W
    (fun W' n hb n1 n2 => radClosure_at B v c m W W' hc hv hB h1 h2 h3 hb n n1 n2)

theorem implLeastRadius_any (v c m r : Int) (hr : radB v c m = true → Turn (radP v c m) 10000 10000000 r) (w : World) :
    Calls Try.prog 12 #[.int .i64 v, .int .i64 c, .int .i64 m] w fun e w' => e = .returned (radV (radB v c m) r) ∧ Below w.heap.size w w' := by
  have hmf : ∀ (fn : Fn) (first cap : Array Value) (w : World), (Instr.makeFunc fn first cap).run Try.prog w = .ok (.func fn first cap) w := fun _ _ _ _ => rfl
  have hbw : ∀ o1 o2 o3 : Obj, Below w.heap.size w (((w.alloc o1).alloc o2).alloc o3) := fun o1 o2 o3 => (((Below.refl _ _).alloc (Nat.le_refl _) _).alloc (by simp) _).alloc (by simp; omega) _
  have HB := Lib.hid hbw
  clear hbw
  cases k1 : inB v 0 20000
  · have hs : radB v c m = false := by simp [radB, k1]
    rw [hs, radV_no]
    clear hr hs
    go_enter Try.func12, Try.ntmps12
    go_wp2_with (go_at_call 24; refine (isPace_any _ _).mono ?_; rintro e w' ⟨rfl, rfl⟩)
    go_ret2
    exact ⟨rfl, HB.out _ _ _⟩
  cases k2 : inB c 0 200
  · have hs : radB v c m = false := by simp [radB, k2]
    rw [hs, radV_no]
    clear hr hs
    go_enter Try.func12, Try.ntmps12
    go_wp2_with (first | (go_at_call 24; refine (isPace_any _ _).mono ?_; rintro e w' ⟨rfl, rfl⟩) | (go_at_call 27; refine (isCant_any _ _).mono ?_; rintro e w' ⟨rfl, rfl⟩))
    go_ret2
    exact ⟨rfl, HB.out _ _ _⟩
  cases k3 : inB m 0 5000
  · have hs : radB v c m = false := by simp [radB, k3]
    rw [hs, radV_no]
    clear hr hs
    go_enter Try.func12, Try.ntmps12
    go_wp2_with (first | (go_at_call 24; refine (isPace_any _ _).mono ?_; rintro e w' ⟨rfl, rfl⟩) | (go_at_call 27; refine (isCant_any _ _).mono ?_; rintro e w' ⟨rfl, rfl⟩) | (go_at_call 22; refine (isSide_any _ _).mono ?_; rintro e w' ⟨rfl, rfl⟩))
    go_ret2
    exact ⟨rfl, HB.out _ _ _⟩
  · have hs : radB v c m = true := by simp [radB, k1, k2, k3]
    have hv := inB_iff.1 k1
    have hc := inB_iff.1 k2
    have HL := Lib.hid (fun W => radLeast_any w.heap.size v c m r W hc hv (hr hs))
    clear hr hv hc
    rw [hs]
    clear hs
    by_cases ho : 10000000 < r
    · rw [radV_out ho]
      go_enter Try.func12, Try.ntmps12
      go_wp2_with (first | (go_at_call 24; refine (isPace_any _ _).mono ?_; rintro e w' ⟨rfl, rfl⟩) | (go_at_call 27; refine (isCant_any _ _).mono ?_; rintro e w' ⟨rfl, rfl⟩) | (go_at_call 22; refine (isSide_any _ _).mono ?_; rintro e w' ⟨rfl, rfl⟩) | (go_at_call 29; refine (HL.out _ ?_ ?_ ?_ ?_).mono ?_; (simp); (go_simp); (go_simp); (go_simp); rintro e w1 ⟨rfl, hb⟩))
      go_ret2
      exact ⟨rfl, (HB.out _ _ _).trans (hb.mono (by simp; omega))⟩
    · rw [radV_in ho]
      go_enter Try.func12, Try.ntmps12
      go_wp2_with (first | (go_at_call 24; refine (isPace_any _ _).mono ?_; rintro e w' ⟨rfl, rfl⟩) | (go_at_call 27; refine (isCant_any _ _).mono ?_; rintro e w' ⟨rfl, rfl⟩) | (go_at_call 22; refine (isSide_any _ _).mono ?_; rintro e w' ⟨rfl, rfl⟩) | (go_at_call 29; refine (HL.out _ ?_ ?_ ?_ ?_).mono ?_; (simp); (go_simp); (go_simp); (go_simp); rintro e w1 ⟨rfl, hb⟩))
      go_ret2
      exact ⟨rfl, (HB.out _ _ _).trans (hb.mono (by simp; omega))⟩

end Go.Proofs.Ytmjjobfaboljpaa.WalkG
