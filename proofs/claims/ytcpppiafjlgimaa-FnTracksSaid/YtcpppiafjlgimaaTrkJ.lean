/- The walks of the place of a height, program and reference. -/
import Derived.Test.YtcpppiafjlgimaaTrkI
namespace Go.Proofs.Ytcpppiafjlgimaa.TrkJ
open Go.RowKit Go.Proofs.Ytcpppiafjlgimaa.Plain Go.Proofs.Ytcpppiafjlgimaa.TrkP Go.Proofs.Ytcpppiafjlgimaa.WalkA Go.Proofs.Ytcpppiafjlgimaa.TrkA Go.Proofs.Ytcpppiafjlgimaa.TrkB Go.Proofs.Ytcpppiafjlgimaa.TrkC Go.Proofs.Ytcpppiafjlgimaa.TrkD Go.Proofs.Ytcpppiafjlgimaa.TrkE Go.Proofs.Ytcpppiafjlgimaa.TrkF Go.Proofs.Ytcpppiafjlgimaa.TrkG Go.Proofs.Ytcpppiafjlgimaa.TrkH Go.Proofs.Ytcpppiafjlgimaa.TrkI Go.Proofs.Ytcpppiafjlgimaa.Least

theorem remTo_mono {l : List (Int × Int)} {x y : Int} (h : x ≤ y) (k : Nat) : remTo l x k ≤ remTo l y k ∧ minI (remTo l x k) (secL l k) ≤ minI (remTo l y k) (secL l k) := by
  have step : ∀ a b s : Int, a ≤ b → minI a s ≤ minI b s ∧ a - minI a s ≤ b - minI b s := by
    intro a b s hab
    unfold minI
    split <;> split <;> omega
  induction k with
  | zero => exact ⟨h, (step _ _ _ h).1⟩
  | succ k ih =>
    have h1 := (step _ _ (secL l k) ih.1).2
    exact ⟨h1, (step _ _ _ h1).1⟩
theorem riseTo_mono {l : List (Int × Int)} (hg : GoodL l) {x y : Int} (h : x ≤ y) (k : Nat) (hk : k ≤ l.length) : riseTo l x k ≤ riseTo l y k := by
  induction k with
  | zero => exact Int.le_refl _
  | succ k ih =>
    have h1 := ih (by omega)
    have h2 := Int.mul_le_mul_of_nonneg_right (remTo_mono (l := l) h k).2 (hg.2 k (by omega)).2.2.1
    simp only [riseTo]
    omega
theorem hAt_mono {l : List (Int × Int)} (hg : GoodL l) {x y : Int} (h : x ≤ y) : hAt l x ≤ hAt l y := Int.ediv_le_ediv (by omega) (riseTo_mono hg h _ (Nat.le_refl _))

/-- The first number from lo on, of k, of which p holds; the next one if of none. -/
def firstT (p : Int → Bool) (lo : Int) : Nat → Int
  | 0 => lo
  | k + 1 => if firstT p lo k ≤ lo + k - 1 then firstT p lo k else if p (lo + k) = true then lo + k else lo + k + 1
theorem firstT_is (p : Int → Bool) (lo : Int) (k : Nat) : Turn p lo (lo + k - 1) (firstT p lo k) := by
  induction k with
  | zero => exact ⟨by simp [firstT], by simp [firstT], fun h => by simp [firstT] at h, fun h => by simp [firstT] at h; omega⟩
  | succ k ih =>
    obtain ⟨h1, h2, h3, h4⟩ := ih
    unfold firstT
    split
    · exact ⟨h1, by omega, h3, fun _ => h4 ‹_›⟩
    · have e : firstT p lo k = lo + k := by omega
      rw [e] at h3
      split
      · exact ⟨by omega, by omega, h3, fun _ => ‹_›⟩
      · exact ⟨by omega, by omega, fun _ => by rw [Int.add_sub_cancel]; exact Bool.not_eq_true _ ▸ ‹¬ p (lo + k) = true›, fun h => by omega⟩
def plcP (l : List (Int × Int)) (h : Int) (x : Int) : Bool := decide (h ≤ hAt l x)
theorem plcP_rises {l : List (Int × Int)} (hg : GoodL l) (h : Int) (hi : Int) : Rises (plcP l h) 0 hi := by
  intro i j _ h2 _ h4
  have a := of_decide_eq_true h4
  have b := hAt_mono hg h2
  exact decide_eq_true (by omega)
def plcR (l : List (Int × Int)) (h : Int) : Int := firstT (plcP l h) 0 (lenAll l + 1).toNat
theorem plcR_is {l : List (Int × Int)} (hg : GoodL l) (h : Int) : Turn (plcP l h) 0 (lenAll l) (plcR l h) := by
  have := firstT_is (plcP l h) 0 (lenAll l + 1).toNat
  have b := (lenAll_bds hg).1
  have e : (0 : Int) + ((lenAll l + 1).toNat : Int) - 1 = lenAll l := by omega
  rw [e] at this
  exact this
def plcC (l : List (Int × Int)) (lf lu h : Int) : Int := if trackB l lf lu = true then (if inB h 0 3000000 = true then (if hAt l (lenAll l) < h then 3 else 0) else 2) else 1
def plcV (l : List (Int × Int)) (lf lu h : Int) : Int := if plcC l lf lu h = 0 then plcR l h else 0
theorem plc_bad {l : List (Int × Int)} {lf lu a : Int} (h : trackB l lf lu = false) : plcC l lf lu a = 1 ∧ plcV l lf lu a = 0 := by simp [plcV, plcC, h]
theorem plc_range {l : List (Int × Int)} {lf lu a : Int} (h : trackB l lf lu = true) (k : inB a 0 3000000 = false) : plcC l lf lu a = 2 ∧ plcV l lf lu a = 0 := by simp [plcV, plcC, h, k]
theorem plc_none {l : List (Int × Int)} {lf lu a : Int} (h : trackB l lf lu = true) (k : inB a 0 3000000 = true) (m : hAt l (lenAll l) < a) : plcC l lf lu a = 3 ∧ plcV l lf lu a = 0 := by simp [plcV, plcC, h, k, m]
theorem plc_ok {l : List (Int × Int)} {lf lu a : Int} (h : trackB l lf lu = true) (k : inB a 0 3000000 = true) (m : ¬ hAt l (lenAll l) < a) : plcC l lf lu a = 0 ∧ plcV l lf lu a = plcR l a := by
  have e : plcC l lf lu a = 0 := by simp [plcC, h, k, m]
  exact ⟨e, by unfold plcV; rw [if_pos e]⟩
theorem plcR_le {l : List (Int × Int)} (hg : GoodL l) {a : Int} : hAt l (lenAll l) < a ↔ lenAll l < plcR l a := by
  have ht := plcR_is hg a
  have b := (lenAll_bds hg).1
  have h1 := ht.all (plcP_rises hg a (lenAll l)) (lenAll l) b (Int.le_refl _)
  constructor
  · intro h
    apply Int.not_le.1
    intro h2
    have := of_decide_eq_true (h1.2 h2)
    omega
  · intro h
    apply Int.not_le.1
    intro h2
    have := h1.1 (decide_eq_true h2)
    omega

theorem keep31 {p q : Nat} {W wc w2 : World} {v0 v1 v2 u0 : Value} (hp : p < W.heap.size) (hq : q < W.heap.size) (h0 : wc.cell? ⟨p, 0, none⟩ = some v0) (h1 : wc.cell? ⟨p, 1, none⟩ = some v1) (h2 : wc.cell? ⟨p, 2, none⟩ = some v2)
    (k0 : wc.cell? ⟨q, 0, none⟩ = some u0) (hb : Below W.heap.size W wc) (h : Below wc.heap.size wc w2) :
    w2.cell? ⟨p, 0, none⟩ = some v0 ∧ w2.cell? ⟨p, 1, none⟩ = some v1 ∧ w2.cell? ⟨p, 2, none⟩ = some v2 ∧ w2.cell? ⟨q, 0, none⟩ = some u0 ∧ Below W.heap.size W w2 :=
  have hp' := Nat.lt_of_lt_of_le hp hb.size
  have hq' := Nat.lt_of_lt_of_le hq hb.size
  ⟨(h.cell (p := ⟨p, 0, none⟩) hp').trans h0, (h.cell (p := ⟨p, 1, none⟩) hp').trans h1, (h.cell (p := ⟨p, 2, none⟩) hp').trans h2, (h.cell (p := ⟨q, 0, none⟩) hq').trans k0, hb.trans (h.mono hb.size)⟩
theorem plcClosure_any (p q : Nat) (A : Option Addr) (n c : Nat) (lf lu : Int) (l : List (Int × Int)) (h x : Int) (w : World) (hs : Secs w w.heap.size A n l) (hg : GoodL l) (hx : 0 ≤ x ∧ x ≤ 36000000) (hp : p < w.heap.size) (hq : q < w.heap.size)
    (r0 : w.cell? ⟨p, 0, none⟩ = some (.slice A n c)) (r1 : w.cell? ⟨p, 1, none⟩ = some (.int .i64 lf)) (r2 : w.cell? ⟨p, 2, none⟩ = some (.int .i64 lu)) (r3 : w.cell? ⟨q, 0, none⟩ = some (.int .i64 h)) :
    Calls Try.prog 30 #[.int .i64 x, .pointer (some ⟨p, 0, none⟩), .pointer (some ⟨q, 0, none⟩)] w fun e w' => e = .returned (.bool (plcP l h x)) ∧ Below w.heap.size w w' := by
  have HA := Lib.hid (fun (W : World) (hW : Below w.heap.size w W) => heightAt_any A n c lf lu l x W (hs.below hW hW.size) hg hx)
  clear hs hg hx
  go_enter Try.func30, Try.ntmps30
  go_wp2
  go_region_held3 (fun w' => w'.cell? ⟨p, 0, none⟩ = some (.slice A n c) ∧ w'.cell? ⟨p, 1, none⟩ = some (.int .i64 lf) ∧ w'.cell? ⟨p, 2, none⟩ = some (.int .i64 lu) ∧ w'.cell? ⟨q, 0, none⟩ = some (.int .i64 h) ∧ Below w.heap.size w w')
    (first | exact ⟨r0, r1, r2, r3, (Below.refl _ _).drew⟩ | (go_split_ands; exact keep31 hp hq (by assumption) (by assumption) (by assumption) (by assumption) (by assumption) (by assumption)))
    (first | (go_at_call 27; refine (HA.out _ ?_).mono ?_; (go_split_ands; assumption); rintro e w2 ⟨rfl, hb2⟩))
  go_wp2
  go_ret
  exact ⟨rfl, by go_split_ands; assumption⟩
theorem plcLeast_any (p q : Nat) (A : Option Addr) (n c : Nat) (lf lu : Int) (l : List (Int × Int)) (h : Int) (w : World) (hs : Secs w w.heap.size A n l) (hg : GoodL l) (hp : p < w.heap.size) (hq : q < w.heap.size)
    (r0 : w.cell? ⟨p, 0, none⟩ = some (.slice A n c)) (r1 : w.cell? ⟨p, 1, none⟩ = some (.int .i64 lf)) (r2 : w.cell? ⟨p, 2, none⟩ = some (.int .i64 lu)) (r3 : w.cell? ⟨q, 0, none⟩ = some (.int .i64 h)) :
    Calls Try.prog 29 #[.int .i64 0, .int .i64 (lenAll l), .func (.func 30) #[] #[.pointer (some ⟨p, 0, none⟩), .pointer (some ⟨q, 0, none⟩)]] w fun e w' => e = .returned (.int .i64 (plcR l h)) ∧ Below w.heap.size w w' :=
  have hb := lenAll_bds hg
  least_any 30 _ (enters_of Try.func30 (by kernel_rfl) rfl) (plcP l h) 0 (lenAll l) (plcR l h) (by omega) (by omega) (by omega) (plcP_rises hg h _) (plcR_is hg h) w
    (fun W x hW x1 x2 => plcClosure_any p q A n c lf lu l h x W (hs.below hW hW.size) hg ⟨x1, by omega⟩ (Nat.lt_of_lt_of_le hp hW.size) (Nat.lt_of_lt_of_le hq hW.size)
      ((hW.cell (p := ⟨p, 0, none⟩) hp).trans r0) ((hW.cell (p := ⟨p, 1, none⟩) hp).trans r1) ((hW.cell (p := ⟨p, 2, none⟩) hp).trans r2) ((hW.cell (p := ⟨q, 0, none⟩) hq).trans r3))
theorem boxed2 (w : World) (t t' : TypeId) (a b c d : Value) :
    ((w.alloc (.cells #[a, b, c] t)).alloc (.cells #[d] t')).cell? ⟨w.heap.size, 0, none⟩ = some a ∧ ((w.alloc (.cells #[a, b, c] t)).alloc (.cells #[d] t')).cell? ⟨w.heap.size, 1, none⟩ = some b ∧ ((w.alloc (.cells #[a, b, c] t)).alloc (.cells #[d] t')).cell? ⟨w.heap.size, 2, none⟩ = some c ∧
    ((w.alloc (.cells #[a, b, c] t)).alloc (.cells #[d] t')).cell? ⟨w.heap.size + 1, 0, none⟩ = some d ∧ Below w.heap.size w ((w.alloc (.cells #[a, b, c] t)).alloc (.cells #[d] t')) ∧ ((w.alloc (.cells #[a, b, c] t)).alloc (.cells #[d] t')).heap.size = w.heap.size + 2 := by
  obtain ⟨h1, h2⟩ := rows_two w t t' #[a, b, c] #[d]
  obtain ⟨h3, h4, h5, _, _, _⟩ := h1.three
  exact ⟨h3, h4, h5, h2.cell 0, ((Below.refl _ _).alloc (Nat.le_refl _) _).alloc (by simp) _, by simp⟩
theorem implPlaceAt_any (A : Option Addr) (n c : Nat) (lf lu : Int) (l : List (Int × Int)) (x : Int) (w : World) (hs : Secs w w.heap.size A n l) (hn : n ≤ 1048576) :
    Calls Try.prog 13 #[.agg #[.slice A n c, .int .i64 lf, .int .i64 lu], .int .i64 x] w fun e w' => e = .returned (.tuple #[.int .i64 (plcV l lf lu x), .int .i64 (plcC l lf lu x)]) ∧ Below w.heap.size w w' := by
  obtain ⟨q0, q1, q2, q5, q3, q4⟩ := boxed2 w 26 2 (.slice A n c) (.int .i64 lf) (.int .i64 lu) (.int .i64 x)
  have HV := Lib.hid (implValidTrack_any A n c lf lu l _ (hs.below q3 q3.size) hn)
  have HB := Lib.hid q3
  have HZ := Lib.hid q4
  have HC := Lib.hid (And.intro q0 (And.intro q1 (And.intro q2 q5)))
  have HS := Lib.hid hs
  have hmf : ∀ (fn : Fn) (first cap : Array Value) (w : World), (Instr.makeFunc fn first cap).run Try.prog w = .ok (.func fn first cap) w := fun _ _ _ _ => rfl
  clear q0 q1 q2 q3 q4 q5 hs
  have hstep : ∀ W0 w1 : World, Below W0.heap.size W0 w1 → W0.heap.size = w.heap.size + 2 →
      (W0.cell? ⟨w.heap.size, 0, none⟩ = some (.slice A n c) ∧ W0.cell? ⟨w.heap.size, 1, none⟩ = some (.int .i64 lf) ∧ W0.cell? ⟨w.heap.size, 2, none⟩ = some (.int .i64 lu) ∧ W0.cell? ⟨w.heap.size + 1, 0, none⟩ = some (.int .i64 x)) →
      (w1.cell? ⟨w.heap.size, 0, none⟩ = some (.slice A n c) ∧ w1.cell? ⟨w.heap.size, 1, none⟩ = some (.int .i64 lf) ∧ w1.cell? ⟨w.heap.size, 2, none⟩ = some (.int .i64 lu) ∧ w1.cell? ⟨w.heap.size + 1, 0, none⟩ = some (.int .i64 x)) := by
    intro W0 w1 hb hz ⟨a0, a1, a2, a3⟩
    have z1 : w.heap.size < W0.heap.size := by omega
    have z2 : w.heap.size + 1 < W0.heap.size := by omega
    exact ⟨(hb.cell (p := ⟨w.heap.size, 0, none⟩) z1).trans a0, (hb.cell (p := ⟨w.heap.size, 1, none⟩) z1).trans a1, (hb.cell (p := ⟨w.heap.size, 2, none⟩) z1).trans a2, (hb.cell (p := ⟨w.heap.size + 1, 0, none⟩) z2).trans a3⟩
  have HST := Lib.hid hstep
  clear hstep
  cases hv : trackB l lf lu
  · obtain ⟨e1, e2⟩ := plc_bad (a := x) hv
    rw [hv] at HV
    rw [e1, e2]
    clear e1 e2 hv
    go_enter Try.func13, Try.ntmps13
    go_wp2_with (go_at_call 7; refine HV.out.mono ?_; rintro e w1 ⟨rfl, hb⟩)
    go_ret2
    exact ⟨rfl, HB.out.trans (hb.mono (by have := HZ.out; omega))⟩
  have hg := (trackB_iff.1 hv).good
  have hbb := lenAll_bds hg
  obtain ⟨b1, b2⟩ := hbb
  rw [hv] at HV
  cases hx : inB x 0 3000000
  · obtain ⟨e1, e2⟩ := plc_range hv hx
    rw [e1, e2]
    clear e1 e2 hv
    go_enter Try.func13, Try.ntmps13
    go_wp2_with fail
    generalize (w.alloc (.cells #[.slice A n c, .int .i64 lf, .int .i64 lu] 26)).alloc (.cells #[.int .i64 x] 2) = W0 at *
    refine HV.out.mono ?_
    rintro e w1 ⟨rfl, hb⟩
    have HBB := Lib.hid hb
    obtain ⟨r0, r1, r2, r3⟩ := HST.out W0 w1 hb HZ.out HC.out
    clear hb
    go_wp2_with (go_at_call 22; refine (within_any _ _ _ _).mono ?_; rintro e w' ⟨rfl, rfl⟩)
    go_ret2
    exact ⟨rfl, HB.out.trans (HBB.out.mono (by have := HZ.out; omega))⟩
  obtain ⟨x1, x2⟩ := inB_iff.1 hx
  have HL := Lib.hid (fun (W : World) (hW : Below w.heap.size w W) => implLength_any A n c lf lu l W (HS.out.below hW hW.size) hg)
  have HQ := Lib.hid (fun (W : World) (hW : Below w.heap.size w W) (h1 : w.heap.size + 1 < W.heap.size) r0 r1 r2 r3 => plcLeast_any w.heap.size (w.heap.size + 1) A n c lf lu l x W (HS.out.below hW hW.size) hg (by omega) h1 r0 r1 r2 r3)
  by_cases hm : hAt l (lenAll l) < x
  all_goals
    first | (obtain ⟨e1, e2⟩ := plc_none hv hx hm; have hres : lenAll l < plcR l x := (plcR_le hg).1 hm) | (obtain ⟨e1, e2⟩ := plc_ok hv hx hm; have hres : ¬ lenAll l < plcR l x := fun h => hm ((plcR_le hg).2 h))
    rw [e1, e2]
    clear e1 e2 hv hm
    go_enter Try.func13, Try.ntmps13
    go_wp2_with fail
    generalize (w.alloc (.cells #[.slice A n c, .int .i64 lf, .int .i64 lu] 26)).alloc (.cells #[.int .i64 x] 2) = W0 at *
    refine HV.out.mono ?_
    rintro e w1 ⟨rfl, hb⟩
    have B1 : Hid (Below W0.heap.size W0 w1) := hb
    have F1 : Hid (∀ W, Below W0.heap.size W0 W → Below w.heap.size w W) := fun W hW => HB.out.trans (hW.mono (by have := HZ.out; omega))
    obtain ⟨r0, r1, r2, r3⟩ := HST.out W0 w1 hb HZ.out HC.out
    clear hb
    go_wp2_with fail
    refine (within_any _ _ _ _).mono ?_
    rintro e w' ⟨rfl, rfl⟩
    go_wp2_with fail
    refine (HL.out _ (F1.out _ B1.out)).mono ?_
    rintro e w2 ⟨rfl, hb2⟩
    have B2 : Hid (Below W0.heap.size W0 w2) := B1.out.trans (hb2.mono B1.out.size)
    clear r0 r1 r2 r3 hb2
    obtain ⟨r0, r1, r2, r3⟩ := HST.out W0 w2 B2.out HZ.out HC.out
    go_wp2_with fail
    refine (HQ.out _ (F1.out _ B2.out) (by have := B2.out.size; have := HZ.out; omega) r0 r1 r2 r3).mono ?_
    rintro e w3 ⟨rfl, hb3⟩
    have B3 : Hid (Below W0.heap.size W0 w3) := B2.out.trans (hb3.mono B2.out.size)
    clear r0 r1 r2 r3 hb3
    obtain ⟨r0, r1, r2, r3⟩ := HST.out W0 w3 B3.out HZ.out HC.out
    go_wp2_with fail
    refine (HL.out _ (F1.out _ B3.out)).mono ?_
    rintro e w4 ⟨rfl, hb4⟩
    go_wp2
    go_ret2
    exact ⟨rfl, F1.out _ (B3.out.trans (hb4.mono B3.out.size))⟩
end Go.Proofs.Ytcpppiafjlgimaa.TrkJ
