/- The walks of the greatest speed in a bend, program and reference. -/
import Derived.Test.YtlknncmnphbpkaaGreatDoorBndA
namespace Go.Proofs.YtlknncmnphbpkaaGreatDoor.BndE
open Go.RowKit Go.Proofs.YtlknncmnphbpkaaGreatDoor.Plain Go.Proofs.YtlknncmnphbpkaaGreatDoor.WalkA Go.Proofs.YtlknncmnphbpkaaGreatDoor.WalkB Go.Proofs.YtlknncmnphbpkaaGreatDoor.WalkC Go.Proofs.YtlknncmnphbpkaaGreatDoor.WalkF Go.Proofs.YtlknncmnphbpkaaGreatDoor.WalkH Go.Proofs.YtlknncmnphbpkaaGreatDoor.BndA

/-- The first number from lo on, of k, of which p holds; the next one if of none. -/
def firstI (p : Int → Bool) (lo : Int) : Nat → Int
  | 0 => lo
  | k + 1 => if firstI p lo k ≤ lo + k - 1 then firstI p lo k else if p (lo + k) = true then lo + k else lo + k + 1
theorem firstI_is (p : Int → Bool) (lo : Int) (k : Nat) : Turn p lo (lo + k - 1) (firstI p lo k) := by
  induction k with
  | zero => exact ⟨by simp [firstI], by simp [firstI], fun h => by simp [firstI] at h, fun h => by simp [firstI] at h; omega⟩
  | succ k ih =>
    obtain ⟨h1, h2, h3, h4⟩ := ih
    unfold firstI
    split
    · exact ⟨h1, by omega, h3, fun _ => h4 ‹_›⟩
    · have e : firstI p lo k = lo + k := by omega
      rw [e] at h3
      split
      · exact ⟨by omega, by omega, h3, fun _ => ‹_›⟩
      · exact ⟨by omega, by omega, fun _ => by rw [Int.add_sub_cancel]; exact Bool.not_eq_true _ ▸ ‹¬ p (lo + k) = true›, fun h => by omega⟩
def spdP (r c m : Int) (v : Int) : Bool := decide (m < sideI r c v)
theorem spdP_rises {r c m : Int} (hr : 0 < r) : Rises (spdP r c m) 0 20000 := by
  intro i j h1 h2 _ h4
  have a := of_decide_eq_true h4
  have b := sideI_speed (c := c) hr h1 h2
  exact decide_eq_true (by omega)
def spdT (r c m : Int) : Int := firstI (spdP r c m) 0 20001
theorem spdT_is (r c m : Int) : Turn (spdP r c m) 0 20000 (spdT r c m) := firstI_is (spdP r c m) 0 20001
theorem spdT_bd (r c m : Int) : 0 ≤ spdT r c m ∧ spdT r c m ≤ 20001 := ⟨(spdT_is r c m).1, (spdT_is r c m).2.1⟩
theorem spdClosure_any (p q : Nat) (r c m v : Int) (hr : 1 ≤ r ∧ r ≤ 1000000000) (hc : 0 ≤ c ∧ c ≤ 200) (hv : 0 ≤ v ∧ v ≤ 20000) (w : World)
    (h1 : w.cell? ⟨p, 1, none⟩ = some (.int .i64 r)) (h2 : w.cell? ⟨p, 3, none⟩ = some (.int .i64 c)) (h3 : w.cell? ⟨q, 0, none⟩ = some (.int .i64 m)) :
    Calls Tryz.prog 59 #[.int .i64 v, .pointer (some ⟨p, 0, none⟩), .pointer (some ⟨q, 0, none⟩)] w fun e w' => e = .returned (.bool (spdP r c m v)) ∧ Drew w w' := by
  have HS := Lib.hid (fun W => side_any r c v hr hc hv W)
  go_enter Tryz.func59, Tryz.ntmps59
  go_wp2
  go_quiet ((go_at_call 60; exact Calls.quiet_of (HS.out _)))
  go_wp2
  go_ret
  exact ⟨ret_bool rfl, ⟨_, rfl⟩⟩
theorem spdLeast_any (p q : Nat) (r c m : Int) (hr : 1 ≤ r ∧ r ≤ 1000000000) (hc : 0 ≤ c ∧ c ≤ 200) (w : World) (hp : p < w.heap.size) (hq : q < w.heap.size)
    (h1 : w.cell? ⟨p, 1, none⟩ = some (.int .i64 r)) (h2 : w.cell? ⟨p, 3, none⟩ = some (.int .i64 c)) (h3 : w.cell? ⟨q, 0, none⟩ = some (.int .i64 m)) :
    Calls Tryz.prog 25 #[.int .i64 0, .int .i64 20000, .func (.func 59) #[] #[.pointer (some ⟨p, 0, none⟩), .pointer (some ⟨q, 0, none⟩)]] w fun e w' => e = .returned (.int .i64 (spdT r c m)) ∧ Below w.heap.size w w' :=
  least_any 59 _ (enters_of Tryz.func59 (by kernel_rfl) rfl) (spdP r c m) 0 20000 (spdT r c m) (by omega) (by omega) (by omega) (spdP_rises (by omega)) (spdT_is r c m) w
    (fun W v hW x1 x2 => (spdClosure_any p q r c m v hr hc ⟨x1, x2⟩ W ((hW.cell (p := ⟨p, 1, none⟩) hp).trans h1) ((hW.cell (p := ⟨p, 3, none⟩) hp).trans h2) ((hW.cell (p := ⟨q, 0, none⟩) hq).trans h3)).mono fun _ _ h => ⟨h.1, drew_down h.2 _⟩)
theorem speedIn_any (s : ByteArray) (r l c : Int) (m : Int) (hr : 1 ≤ r ∧ r ≤ 1000000000) (hc : 0 ≤ c ∧ c ≤ 200) (w : World) :
    Calls Tryz.prog 40 #[.agg #[.string s, .int .i64 r, .int .i64 l, .int .i64 c], .int .i64 m] w fun e w' => e = .returned (.int .i64 (spdT r c m - 1)) ∧ Below w.heap.size w w' := by
  obtain ⟨q0, q1, q2, q3, q4, q5⟩ := boxed4 w 25 (.string s) (.int .i64 r) (.int .i64 l) (.int .i64 c)
  have a2 := (Below.refl (w.alloc (.cells #[.string s, .int .i64 r, .int .i64 l, .int .i64 c] 25)).heap.size (w.alloc (.cells #[.string s, .int .i64 r, .int .i64 l, .int .i64 c] 25))).alloc (Nat.le_refl _) (.cells #[.int .i64 m] 2)
  have hz : w.heap.size < (w.alloc (.cells #[.string s, .int .i64 r, .int .i64 l, .int .i64 c] 25)).heap.size := by omega
  have hn : ((w.alloc (.cells #[.string s, .int .i64 r, .int .i64 l, .int .i64 c] 25)).alloc (.cells #[.int .i64 m] 2)).cell? ⟨w.heap.size + 1, 0, none⟩ = some (.int .i64 m) := by
    rw [← q5]
    exact cell_of_row _ _ 0 _ _ _ (heap_alloc_new _ _)
  have hs2 : ((w.alloc (.cells #[.string s, .int .i64 r, .int .i64 l, .int .i64 c] 25)).alloc (.cells #[.int .i64 m] 2)).heap.size = w.heap.size + 2 := by simp
  have HL := Lib.hid (spdLeast_any w.heap.size (w.heap.size + 1) r c m hr hc _ (by omega) (by omega) ((a2.cell (p := ⟨w.heap.size, 1, none⟩) hz).trans q1) ((a2.cell (p := ⟨w.heap.size, 3, none⟩) hz).trans q3) hn)
  have HB := Lib.hid (q4.trans (a2.mono (by omega)))
  have HZ := Lib.hid hs2
  have hmf : ∀ (fn : Fn) (first cap : Array Value) (w : World), (Instr.makeFunc fn first cap).run Tryz.prog w = .ok (.func fn first cap) w := fun _ _ _ _ => rfl
  obtain ⟨t1, t2⟩ := spdT_bd r c m
  clear q0 q1 q2 q3 q4 q5 a2 hz hn hs2 hr hc
  go_enter Tryz.func40, Tryz.ntmps40
  go_wp2_with fail
  refine HL.out.mono ?_
  rintro e w1 ⟨rfl, hb⟩
  go_wp2
  go_ret
  exact ⟨rfl, HB.out.trans (hb.mono (by have := HZ.out; omega))⟩
theorem drew_more {w wr : World} (h : ∃ n, wr = w.drewN n) (m : Nat) : ∃ n, wr.drewN m = w.drewN n := by
  obtain ⟨n, rfl⟩ := h
  exact ⟨n + m, World.drewN_drewN ..⟩
theorem specIn_any (p o : Nat) (r c m : Int) (hr : 1 ≤ r ∧ r ≤ 1000000000) (hc : 0 ≤ c ∧ c ≤ 200) (hm : 0 ≤ m) (w : World) (h1 : w.cell? ⟨p, o + 1, none⟩ = some (.int .i64 r)) (h3 : w.cell? ⟨p, o + 3, none⟩ = some (.int .i64 c)) :
    Calls Tryz.prog 43 #[.pointer (some ⟨p, o, none⟩), .int .i64 m] w fun e w' => e = .returned (.int .i64 (spdT r c m - 1)) ∧ ∃ n, w' = w.drewN n := by
  have HD := Lib.hid (fun (v : Int) hv W => specSide_any r c v hr hc hv W)
  have HP := Lib.hid (spdP_rises (c := c) (m := m) (show 0 < r by omega))
  have HT := Lib.hid (spdT_is r c m)
  have HS : Hid (spdP r c m 0 = false) := decide_eq_false (by have := sideI_zero (r := r) (c := c) (by omega) hc.1; omega)
  clear hr hc hm
  go_enter Tryz.func43, Tryz.ntmps43
  go_wp2
  go_loopw [5, 6] (fun s t wr => ∃ (a b : Int), s = .int .i64 a ∧ t = .int .i64 b ∧ 0 ≤ a ∧ a < b ∧ b ≤ 20001 ∧ Hid (spdP r c m a = false) ∧ Hid (b ≤ 20000 → spdP r c m b = true) ∧ Hid (∃ n, wr = w.drewN n)) (fun s t _ => (intOf t - intOf s).toNat)
  case atStart => exact ⟨0, 20001, rfl, rfl, by omega, by omega, by omega, HS, fun h => by omega, ⟨0, rfl⟩⟩
  case round =>
    obtain ⟨a, b, rfl, rfl, a1, a2, a3, ha, hb, hw⟩ := hrel
    have g1 : wr.cell? ⟨p, o + 1, none⟩ = some (.int .i64 r) := by obtain ⟨n, rfl⟩ := hw.out; exact h1
    have g3 : wr.cell? ⟨p, o + 3, none⟩ = some (.int .i64 c) := by obtain ⟨n, rfl⟩ := hw.out; exact h3
    by_cases hlt : 1 < b - a
    · by_cases hle : sideI r c ((a + b) / 2) ≤ m
      · have HF : Hid (spdP r c m ((a + b) / 2) = false) := decide_eq_false (by omega)
        go_wp2
        go_quiet ((go_at_call 61; exact Calls.quiet_of_same ((HD.out _ ⟨by omega, by omega⟩ _).mono fun _ _ h => ⟨h.1, h.2.symm⟩)))
        go_wp2
        go_roundw
        case rel => exact ⟨_, _, rfl, rfl, by omega, by omega, by omega, HF, hb, drew_more hw.out _⟩
        case measure => simp [intOf]; omega
      · have HF : Hid (spdP r c m ((a + b) / 2) = true) := decide_eq_true (by omega)
        go_wp2
        go_quiet ((go_at_call 61; exact Calls.quiet_of_same ((HD.out _ ⟨by omega, by omega⟩ _).mono fun _ _ h => ⟨h.1, h.2.symm⟩)))
        go_wp2
        go_roundw
        case rel => exact ⟨_, _, rfl, rfl, by omega, by omega, by omega, ha, fun _ => HF.out, drew_more hw.out _⟩
        case measure => simp [intOf]; omega
    · have e : a = spdT r c m - 1 := by
        have hab : b = a + 1 := by omega
        subst hab
        have := Turn.same HP.out (r := a + 1) ⟨by omega, by omega, fun _ => by rw [Int.add_sub_cancel]; exact ha.out, hb.out⟩ HT.out
        omega
      have HE := Lib.hid e
      clear e
      go_wp2
      go_ret
      exact ⟨ret_int HE.out, hw.out⟩

end Go.Proofs.YtlknncmnphbpkaaGreatDoor.BndE
