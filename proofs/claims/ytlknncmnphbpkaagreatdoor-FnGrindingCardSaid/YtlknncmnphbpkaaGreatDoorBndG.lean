/- The walks of the rides until rails are ground, program and reference. -/
import Derived.Test.YtlknncmnphbpkaaGreatDoorBndC
import Derived.Test.YtlknncmnphbpkaaGreatDoorBndE
import Derived.Deep.RegionHeld3
namespace Go.Proofs.YtlknncmnphbpkaaGreatDoor.BndG
open Go.RowKit Go.Proofs.YtlknncmnphbpkaaGreatDoor.Plain Go.Proofs.YtlknncmnphbpkaaGreatDoor.WalkA Go.Proofs.YtlknncmnphbpkaaGreatDoor.WalkB Go.Proofs.YtlknncmnphbpkaaGreatDoor.WalkC Go.Proofs.YtlknncmnphbpkaaGreatDoor.WalkF Go.Proofs.YtlknncmnphbpkaaGreatDoor.WalkH Go.Proofs.YtlknncmnphbpkaaGreatDoor.BndA Go.Proofs.YtlknncmnphbpkaaGreatDoor.BndC Go.Proofs.YtlknncmnphbpkaaGreatDoor.BndE

def rgP (r m y : Int) (a : Int) : Bool := decide (y < wearI r a m)
theorem rgP_rises {r m y : Int} (hr : 0 < r) (hm : 0 ≤ m) : Rises (rgP r m y) 0 1000000 := by
  intro i j h1 h2 _ h4
  have a := of_decide_eq_true h4
  have e := Int.mul_le_mul_of_nonneg_right h2 hm
  have e0 := Int.mul_nonneg h1 hm
  have b := divR_mono_left (a := i * m * 10) (a' := j * m * 10) (b := r) (by omega) (by omega) hr
  unfold wearI at a
  exact decide_eq_true (by unfold wearI; omega)
@[irreducible] def rgT (r m y : Int) : Int := firstI (rgP r m y) 0 1000001
theorem rgT_is (r m y : Int) : Turn (rgP r m y) 0 1000000 (rgT r m y) := by
  unfold rgT
  exact firstI_is (rgP r m y) 0 1000001
theorem rgT_bd (r m y : Int) : 0 ≤ rgT r m y ∧ rgT r m y ≤ 1000001 := ⟨(rgT_is r m y).1, (rgT_is r m y).2.1⟩
theorem keepG {p : Nat} {W wc w2 : World} {v0 v1 v2 v3 v4 v5 : Value} (hp : p + 2 < W.heap.size) (h0 : wc.cell? ⟨p, 0, none⟩ = some v0) (h1 : wc.cell? ⟨p, 1, none⟩ = some v1) (h2 : wc.cell? ⟨p, 2, none⟩ = some v2) (h3 : wc.cell? ⟨p, 3, none⟩ = some v3) (h4 : wc.cell? ⟨p + 1, 0, none⟩ = some v4) (h5 : wc.cell? ⟨p + 2, 0, none⟩ = some v5)
    (hb : Below W.heap.size W wc) (h : Below wc.heap.size wc w2) :
    w2.cell? ⟨p, 0, none⟩ = some v0 ∧ w2.cell? ⟨p, 1, none⟩ = some v1 ∧ w2.cell? ⟨p, 2, none⟩ = some v2 ∧ w2.cell? ⟨p, 3, none⟩ = some v3 ∧ w2.cell? ⟨p + 1, 0, none⟩ = some v4 ∧ w2.cell? ⟨p + 2, 0, none⟩ = some v5 ∧ Below W.heap.size W w2 :=
  have a := hb.size
  have z0 : p < wc.heap.size := by omega
  have z1 : p + 1 < wc.heap.size := by omega
  have z2 : p + 2 < wc.heap.size := by omega
  ⟨(h.cell (p := ⟨p, 0, none⟩) z0).trans h0, (h.cell (p := ⟨p, 1, none⟩) z0).trans h1, (h.cell (p := ⟨p, 2, none⟩) z0).trans h2, (h.cell (p := ⟨p, 3, none⟩) z0).trans h3, (h.cell (p := ⟨p + 1, 0, none⟩) z1).trans h4, (h.cell (p := ⟨p + 2, 0, none⟩) z2).trans h5, hb.trans (h.mono a)⟩
theorem rgClosure_any (p : Nat) (s : ByteArray) (r l c : Int) (x y a : Int) (hr : 1 ≤ r ∧ r ≤ 1000000000) (hx : 0 ≤ x ∧ x ≤ 100000) (ha : 0 ≤ a ∧ a ≤ 1000000) (w : World) (hp : p + 2 < w.heap.size) (h0 : w.cell? ⟨p, 0, none⟩ = some (.string s)) (h1 : w.cell? ⟨p, 1, none⟩ = some (.int .i64 r)) (h2 : w.cell? ⟨p, 2, none⟩ = some (.int .i64 l)) (h3 : w.cell? ⟨p, 3, none⟩ = some (.int .i64 c)) (h4 : w.cell? ⟨p + 1, 0, none⟩ = some (.int .i64 x)) (h5 : w.cell? ⟨p + 2, 0, none⟩ = some (.int .i64 y)) :
    Calls Tryz.prog 26 #[.int .i64 a, .pointer (some ⟨p, 0, none⟩), .pointer (some ⟨p + 1, 0, none⟩), .pointer (some ⟨p + 2, 0, none⟩)] w fun e w' => e = .returned (.bool (rgP r x y a)) ∧ Below w.heap.size w w' := by
  have HA := Lib.hid (fun W => wear_any s r l c a x hr ha hx W)
  clear hr hx ha
  unfold rgP
  generalize wearI r a x = d at *
  go_enter Tryz.func26, Tryz.ntmps26
  go_wp2
  go_region_held3 (fun w' => w'.cell? ⟨p, 0, none⟩ = some (.string s) ∧ w'.cell? ⟨p, 1, none⟩ = some (.int .i64 r) ∧ w'.cell? ⟨p, 2, none⟩ = some (.int .i64 l) ∧ w'.cell? ⟨p, 3, none⟩ = some (.int .i64 c) ∧ w'.cell? ⟨p + 1, 0, none⟩ = some (.int .i64 x) ∧ w'.cell? ⟨p + 2, 0, none⟩ = some (.int .i64 y) ∧ Below w.heap.size w w')
    (first | exact ⟨h0, h1, h2, h3, h4, h5, (Below.refl _ _).drew⟩ | (go_split_ands; exact keepG hp (by assumption) (by assumption) (by assumption) (by assumption) (by assumption) (by assumption) (by assumption) (by first | assumption | exact Below.refl _ _)))
    (first | (go_at_call 27; refine (HA.out _).mono ?_; rintro e w2 ⟨rfl, hb2⟩))
  go_wp2
  go_ret
  exact ⟨rfl, by go_split_ands; assumption⟩
theorem rgLeast_any (p : Nat) (s : ByteArray) (r l c : Int) (x y : Int) (hr : 1 ≤ r ∧ r ≤ 1000000000) (hx : 0 ≤ x ∧ x ≤ 100000) (w : World) (hp : p + 2 < w.heap.size) (h0 : w.cell? ⟨p, 0, none⟩ = some (.string s)) (h1 : w.cell? ⟨p, 1, none⟩ = some (.int .i64 r)) (h2 : w.cell? ⟨p, 2, none⟩ = some (.int .i64 l)) (h3 : w.cell? ⟨p, 3, none⟩ = some (.int .i64 c)) (h4 : w.cell? ⟨p + 1, 0, none⟩ = some (.int .i64 x)) (h5 : w.cell? ⟨p + 2, 0, none⟩ = some (.int .i64 y)) :
    Calls Tryz.prog 25 #[.int .i64 0, .int .i64 1000000, .func (.func 26) #[] #[.pointer (some ⟨p, 0, none⟩), .pointer (some ⟨p + 1, 0, none⟩), .pointer (some ⟨p + 2, 0, none⟩)]] w fun e w' => e = .returned (.int .i64 (rgT r x y)) ∧ Below w.heap.size w w' :=
  least_any 26 _ (enters_of Tryz.func26 (by kernel_rfl) rfl) (rgP r x y) 0 1000000 (rgT r x y) (by omega) (by omega) (by omega) (rgP_rises (by omega) hx.1) (rgT_is r x y) w
    (fun W a hW a1 a2 => by
      obtain ⟨k0, k1, k2, k3, k4, k5, _⟩ := keepG hp h0 h1 h2 h3 h4 h5 (Below.refl _ _) hW
      exact rgClosure_any p s r l c x y a hr hx ⟨a1, a2⟩ W (Nat.lt_of_lt_of_le hp hW.size) k0 k1 k2 k3 k4 k5)

theorem boxed6 (w : World) (t t1 t2 : TypeId) (a b c d e f : Value) :
    (((w.alloc (.cells #[a, b, c, d] t)).alloc (.cells #[e] t1)).alloc (.cells #[f] t2)).cell? ⟨w.heap.size, 0, none⟩ = some a ∧ (((w.alloc (.cells #[a, b, c, d] t)).alloc (.cells #[e] t1)).alloc (.cells #[f] t2)).cell? ⟨w.heap.size, 1, none⟩ = some b ∧
    (((w.alloc (.cells #[a, b, c, d] t)).alloc (.cells #[e] t1)).alloc (.cells #[f] t2)).cell? ⟨w.heap.size, 2, none⟩ = some c ∧ (((w.alloc (.cells #[a, b, c, d] t)).alloc (.cells #[e] t1)).alloc (.cells #[f] t2)).cell? ⟨w.heap.size, 3, none⟩ = some d ∧
    (((w.alloc (.cells #[a, b, c, d] t)).alloc (.cells #[e] t1)).alloc (.cells #[f] t2)).cell? ⟨w.heap.size + 1, 0, none⟩ = some e ∧ (((w.alloc (.cells #[a, b, c, d] t)).alloc (.cells #[e] t1)).alloc (.cells #[f] t2)).cell? ⟨w.heap.size + 2, 0, none⟩ = some f ∧
    Below w.heap.size w (((w.alloc (.cells #[a, b, c, d] t)).alloc (.cells #[e] t1)).alloc (.cells #[f] t2)) ∧ (((w.alloc (.cells #[a, b, c, d] t)).alloc (.cells #[e] t1)).alloc (.cells #[f] t2)).heap.size = w.heap.size + 3 := by
  obtain ⟨q0, q1, q2, q3, q4, q5⟩ := boxed4 w t a b c d
  generalize w.alloc (.cells #[a, b, c, d] t) = W1 at *
  have a1 := (Below.refl W1.heap.size W1).alloc (Nat.le_refl _) (.cells #[e] t1)
  have n1 : (W1.alloc (.cells #[e] t1)).cell? ⟨w.heap.size + 1, 0, none⟩ = some e := by rw [← q5]; exact cell_of_row _ _ 0 _ _ _ (heap_alloc_new _ _)
  have s1 : (W1.alloc (.cells #[e] t1)).heap.size = w.heap.size + 2 := by simp; omega
  have z : w.heap.size < W1.heap.size := by omega
  have k0 := (a1.cell (p := ⟨w.heap.size, 0, none⟩) z).trans q0
  have k1 := (a1.cell (p := ⟨w.heap.size, 1, none⟩) z).trans q1
  have k2 := (a1.cell (p := ⟨w.heap.size, 2, none⟩) z).trans q2
  have k3 := (a1.cell (p := ⟨w.heap.size, 3, none⟩) z).trans q3
  have b1 := q4.trans (a1.mono (by omega))
  generalize W1.alloc (.cells #[e] t1) = W2 at *
  have a2 := (Below.refl W2.heap.size W2).alloc (Nat.le_refl _) (.cells #[f] t2)
  have n2 : (W2.alloc (.cells #[f] t2)).cell? ⟨w.heap.size + 2, 0, none⟩ = some f := by rw [← s1]; exact cell_of_row _ _ 0 _ _ _ (heap_alloc_new _ _)
  have y : w.heap.size < W2.heap.size := by omega
  have y1 : w.heap.size + 1 < W2.heap.size := by omega
  exact ⟨(a2.cell (p := ⟨w.heap.size, 0, none⟩) y).trans k0, (a2.cell (p := ⟨w.heap.size, 1, none⟩) y).trans k1, (a2.cell (p := ⟨w.heap.size, 2, none⟩) y).trans k2, (a2.cell (p := ⟨w.heap.size, 3, none⟩) y).trans k3, (a2.cell (p := ⟨w.heap.size + 1, 0, none⟩) y1).trans n1, n2, b1.trans (a2.mono (by omega)), by simp; omega⟩

theorem implRidesToGrind_any (s : ByteArray) (r l c : Int) (x y : Int) (hz : s.size ≤ 9223372036854775807) (w : World) :
    Calls Tryz.prog 6 #[.agg #[.string s, .int .i64 r, .int .i64 l, .int .i64 c], .int .i64 x, .int .i64 y] w fun e w' => e = .returned (.tuple #[.int .i64 (vB (bendB s r l c && (inB x 0 100000 && inB y 0 1000000)) (rgT r x y - 1)), .int .i64 (codC (bendB s r l c) (inB x 0 100000 && inB y 0 1000000))]) ∧ Below w.heap.size w w' := by
  have HV := Lib.hid (fun W => validBend_any s r l c hz W)
  have hmf : ∀ (fn : Fn) (first cap : Array Value) (w : World), (Instr.makeFunc fn first cap).run Tryz.prog w = .ok (.func fn first cap) w := fun _ _ _ _ => rfl
  obtain ⟨q0, q1, q2, q3, q4, q5, b0, z0⟩ := boxed6 w 25 2 2 (.string s) (.int .i64 r) (.int .i64 l) (.int .i64 c) (.int .i64 x) (.int .i64 y)
  have HB := Lib.hid b0
  have hp : w.heap.size + 2 < (((w.alloc (.cells #[.string s, .int .i64 r, .int .i64 l, .int .i64 c] 25)).alloc (.cells #[.int .i64 x] 2)).alloc (.cells #[.int .i64 y] 2)).heap.size := by omega
  clear b0 z0
  cases hv : bendB s r l c
  · obtain ⟨e1, e2⟩ := cod_bad (b1 := false) (b2 := inB x 0 100000 && inB y 0 1000000) rfl
    rw [hv] at HV
    rw [e1, e2, vB_no]
    clear e1 e2
    go_enter Tryz.func6, Tryz.ntmps6
    go_wp2_with fail
    generalize (((w.alloc (.cells #[.string s, .int .i64 r, .int .i64 l, .int .i64 c] 25)).alloc (.cells #[.int .i64 x] 2)).alloc (.cells #[.int .i64 y] 2)) = W0 at *
    have HB2 : Hid (∀ W, Below W0.heap.size W0 W → Below w.heap.size w W) := fun W hW => HB.out.trans (hW.mono (by omega))
    have b := Below.refl W0.heap.size W0
    refine (HV.out _).mono ?_
    rintro e w1 ⟨rfl, hb⟩
    have z := keepG hp q0 q1 q2 q3 q4 q5 b hb
    clear q0 q1 q2 q3 q4 q5 b hb
    obtain ⟨q0, q1, q2, q3, q4, q5, b⟩ := z
    go_wp2_with fail
    go_ret2
    exact ⟨rfl, HB2.out _ b⟩
  rw [hv] at HV
  cases hx : inB x 0 100000
  · rw [show codC true (false && inB y 0 1000000) = 2 from rfl, show (true && (false && inB y 0 1000000)) = false from rfl, vB_no]
    go_enter Tryz.func6, Tryz.ntmps6
    go_wp2_with fail
    generalize (((w.alloc (.cells #[.string s, .int .i64 r, .int .i64 l, .int .i64 c] 25)).alloc (.cells #[.int .i64 x] 2)).alloc (.cells #[.int .i64 y] 2)) = W0 at *
    have HB2 : Hid (∀ W, Below W0.heap.size W0 W → Below w.heap.size w W) := fun W hW => HB.out.trans (hW.mono (by omega))
    have b := Below.refl W0.heap.size W0
    refine (HV.out _).mono ?_
    rintro e w1 ⟨rfl, hb⟩
    have z := keepG hp q0 q1 q2 q3 q4 q5 b hb
    clear q0 q1 q2 q3 q4 q5 b hb
    obtain ⟨q0, q1, q2, q3, q4, q5, b⟩ := z
    go_wp2_with fail
    refine (isLoad_any _ _).mono ?_
    rintro e w2 ⟨rfl, rfl⟩
    go_wp2_with fail
    go_ret2
    exact ⟨rfl, HB2.out _ b⟩
  cases hy : inB y 0 1000000
  · rw [show codC true (true && false) = 2 from rfl, show (true && (true && false)) = false from rfl, vB_no]
    go_enter Tryz.func6, Tryz.ntmps6
    go_wp2_with fail
    generalize (((w.alloc (.cells #[.string s, .int .i64 r, .int .i64 l, .int .i64 c] 25)).alloc (.cells #[.int .i64 x] 2)).alloc (.cells #[.int .i64 y] 2)) = W0 at *
    have HB2 : Hid (∀ W, Below W0.heap.size W0 W → Below w.heap.size w W) := fun W hW => HB.out.trans (hW.mono (by omega))
    have b := Below.refl W0.heap.size W0
    refine (HV.out _).mono ?_
    rintro e w1 ⟨rfl, hb⟩
    have z := keepG hp q0 q1 q2 q3 q4 q5 b hb
    clear q0 q1 q2 q3 q4 q5 b hb
    obtain ⟨q0, q1, q2, q3, q4, q5, b⟩ := z
    go_wp2_with fail
    refine (isLoad_any _ _).mono ?_
    rintro e w2 ⟨rfl, rfl⟩
    go_wp2_with fail
    refine (isWear_any _ _).mono ?_
    rintro e w3 ⟨rfl, rfl⟩
    go_wp2_with fail
    go_ret2
    exact ⟨rfl, HB2.out _ b⟩
  rw [show codC true (true && true) = 0 from rfl, show (true && (true && true)) = true from rfl, vB_yes]
  obtain ⟨_, hr, hl, hc⟩ := bendB_iff.1 hv
  obtain ⟨t1, t2⟩ := rgT_bd r x y
  have HD := Lib.hid (fun W h h0 h1 h2 h3 h4 h5 => rgLeast_any w.heap.size s r l c x y ⟨by omega, by omega⟩ (inB_iff.1 hx) W h h0 h1 h2 h3 h4 h5)
  clear hr hl hc
  go_enter Tryz.func6, Tryz.ntmps6
  go_wp2_with fail
  generalize (((w.alloc (.cells #[.string s, .int .i64 r, .int .i64 l, .int .i64 c] 25)).alloc (.cells #[.int .i64 x] 2)).alloc (.cells #[.int .i64 y] 2)) = W0 at *
  have HB2 : Hid (∀ W, Below W0.heap.size W0 W → Below w.heap.size w W) := fun W hW => HB.out.trans (hW.mono (by omega))
  have b := Below.refl W0.heap.size W0
  refine (HV.out _).mono ?_
  rintro e w1 ⟨rfl, hb⟩
  have z := keepG hp q0 q1 q2 q3 q4 q5 b hb
  clear q0 q1 q2 q3 q4 q5 b hb
  obtain ⟨q0, q1, q2, q3, q4, q5, b⟩ := z
  go_wp2_with fail
  refine (isLoad_any _ _).mono ?_
  rintro e w2 ⟨rfl, rfl⟩
  go_wp2_with fail
  refine (isWear_any _ _).mono ?_
  rintro e w3 ⟨rfl, rfl⟩
  go_wp2_with fail
  refine (HD.out _ (Nat.lt_of_lt_of_le hp b.size) q0 q1 q2 q3 q4 q5).mono ?_
  rintro e w4 ⟨rfl, hb⟩
  have z := keepG hp q0 q1 q2 q3 q4 q5 b hb
  clear q0 q1 q2 q3 q4 q5 b hb
  obtain ⟨q0, q1, q2, q3, q4, q5, b⟩ := z
  go_wp2_with fail
  go_ret2
  exact ⟨rfl, HB2.out _ b⟩

end Go.Proofs.YtlknncmnphbpkaaGreatDoor.BndG
