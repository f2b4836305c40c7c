/- The walks of grades, of the places of the other car and of lengths, program and reference. -/
import Derived.Test.YtcpppiafjlgimaaTrkF
namespace Go.Proofs.Ytcpppiafjlgimaa.TrkG
open Go.RowKit Go.Proofs.Ytcpppiafjlgimaa.Plain Go.Proofs.Ytcpppiafjlgimaa.TrkP Go.Proofs.Ytcpppiafjlgimaa.WalkA Go.Proofs.Ytcpppiafjlgimaa.TrkA Go.Proofs.Ytcpppiafjlgimaa.TrkB Go.Proofs.Ytcpppiafjlgimaa.TrkC Go.Proofs.Ytcpppiafjlgimaa.TrkD Go.Proofs.Ytcpppiafjlgimaa.TrkE Go.Proofs.Ytcpppiafjlgimaa.TrkF

def secGo (l : List (Int × Int)) (x : Int) : Nat → Nat → Nat
  | 0, k => k
  | f + 1, k => if k + 1 < l.length ∧ lenTo l (k + 1) ≤ x then secGo l x f (k + 1) else k
/-- The section of a place. -/
def secN (l : List (Int × Int)) (x : Int) : Nat := secGo l x l.length 0
theorem secN_is {l : List (Int × Int)} (hpos : 1 ≤ l.length) (x : Int) : IsSec l x (secN l x) := by
  have main : ∀ f k, k < l.length → l.length = k + f → (∀ j, j < k → lenTo l (j + 1) ≤ x) → IsSec l x (secGo l x f k) := by
    intro f
    induction f with
    | zero => intro k hk e; omega
    | succ f ih =>
      intro k hk e hall
      unfold secGo
      split
      · rename_i h
        exact ih (k + 1) h.1 (by omega) fun j hj => by
          by_cases ej : j = k
          · subst ej; exact h.2
          · exact hall j (by omega)
      · rename_i h
        exact ⟨hk, hall, fun h1 => by
          apply Int.not_le.1
          intro h2
          exact h ⟨h1, h2⟩⟩
  exact main l.length 0 (by omega) (by omega) fun j hj => by omega

theorem keep5 {p q o1 o2 : Nat} {W wc w2 : World} {v0 v1 v2 u0 u1 : Value} (hp : p < W.heap.size) (hq : q < W.heap.size) (h0 : wc.cell? ⟨p, 0, none⟩ = some v0) (h1 : wc.cell? ⟨p, 1, none⟩ = some v1) (h2 : wc.cell? ⟨p, 2, none⟩ = some v2)
    (k0 : wc.cell? ⟨q, o1, none⟩ = some u0) (k1 : wc.cell? ⟨q, o2, none⟩ = some u1) (hb : Below W.heap.size W wc) (h : Below wc.heap.size wc w2) :
    w2.cell? ⟨p, 0, none⟩ = some v0 ∧ w2.cell? ⟨p, 1, none⟩ = some v1 ∧ w2.cell? ⟨p, 2, none⟩ = some v2 ∧ w2.cell? ⟨q, o1, none⟩ = some u0 ∧ w2.cell? ⟨q, o2, none⟩ = some u1 ∧ Below W.heap.size W w2 :=
  have hp' := Nat.lt_of_lt_of_le hp hb.size
  have hq' := Nat.lt_of_lt_of_le hq hb.size
  ⟨(h.cell (p := ⟨p, 0, none⟩) hp').trans h0, (h.cell (p := ⟨p, 1, none⟩) hp').trans h1, (h.cell (p := ⟨p, 2, none⟩) hp').trans h2, (h.cell (p := ⟨q, o1, none⟩) hq').trans k0, (h.cell (p := ⟨q, o2, none⟩) hq').trans k1, hb.trans (h.mono hb.size)⟩
theorem quiet_left {P : Program} {f : FuncId} {args : Array Value} {w : World} {n : Nat} {v : Value}
    (h : Calls P f args (w.drewN n) fun e w' => e = .returned v ∧ w.drewN n = w') : Calls P f args (w.drewN n) fun e w'' => e = .returned v ∧ ∃ m, w'' = w.drewN m :=
  h.mono fun _ _ ⟨he, hm⟩ => ⟨he, n, hm.symm⟩
theorem gradeAt_any (A : Option Addr) (n c : Nat) (lf lu : Int) (l : List (Int × Int)) (x : Int) (w : World) (hs : Secs w w.heap.size A n l) (hg : GoodL l) (hx : 0 ≤ x ∧ x ≤ 36000000) (hpos : 1 ≤ l.length) :
    Calls Try.prog 28 #[.agg #[.slice A n c, .int .i64 lf, .int .i64 lu], .int .i64 x] w fun e w' => e = .returned (.int .i64 (secG l (secN l x))) ∧ Below w.heap.size w w' := by
  have HK := secN_is hpos x
  have hk1 := HK.1
  obtain ⟨q0, q1, q2, q3, q4⟩ := boxed w 26 (.slice A n c) (.int .i64 lf) (.int .i64 lu)
  have HC := Lib.hid (fun (W : World) (hW : Below w.heap.size w W) => sectionAt_any A n c lf lu l x (secN l x) W (hs.below hW hW.size) hg hx HK)
  have HS := hs.below q3 q3.size
  obtain ⟨rfl, hs2⟩ := HS
  obtain ⟨b, off, rfl, hbb, hc⟩ := hs2 (by omega)
  obtain ⟨c1, c2⟩ := hc _ hk1
  have h12 := hg.1
  have HB := Lib.hid q3
  have HZ := Lib.hid q4
  clear hs2 hc HK hg hs q3 q4
  generalize secN l x = K at *
  have i0 : (0 : Int) ≤ (K : Int) := by omega
  have i1 : (K : Int) < (l.length : Int) := by omega
  go_enter Try.func28, Try.ntmps28
  go_wp2
  generalize w.alloc (.cells #[.slice (some ⟨b, off, none⟩) l.length c, .int .i64 lf, .int .i64 lu] 26) = W0 at *
  have hp : w.heap.size < W0.heap.size := by have := HZ.out; omega
  have HB2 : Hid (∀ W, Below W0.heap.size W0 W → Below w.heap.size w W) := fun W hW => HB.out.trans (hW.mono (by omega))
  go_region_held3 (fun w' => w'.cell? ⟨w.heap.size, 0, none⟩ = some (.slice (some ⟨b, off, none⟩) l.length c) ∧ w'.cell? ⟨w.heap.size, 1, none⟩ = some (.int .i64 lf) ∧ w'.cell? ⟨w.heap.size, 2, none⟩ = some (.int .i64 lu) ∧ w'.cell? ⟨b, off + K * 2, none⟩ = some (.int .i64 (secL l K)) ∧ w'.cell? ⟨b, off + K * 2 + 1, none⟩ = some (.int .i64 (secG l K)) ∧ Below W0.heap.size W0 w')
    (first | exact ⟨q0, q1, q2, c1, c2, (Below.refl _ _).drew⟩ | (go_split_ands; exact keep5 hp hbb (by assumption) (by assumption) (by assumption) (by assumption) (by assumption) (by assumption) (by assumption)))
    (first | (go_at_call 37; refine (HC.out _ ?_).mono ?_; (exact HB2.out _ (by go_split_ands; assumption)); rintro e w2 ⟨rfl, hb2⟩))
  go_wp2
  go_ret
  exact ⟨rfl, HB2.out _ (by go_split_ands; assumption)⟩
theorem implHeightAt_any (A : Option Addr) (n c : Nat) (lf lu : Int) (l : List (Int × Int)) (x : Int) (w : World) (hs : Secs w w.heap.size A n l) (hn : n ≤ 1048576) :
    Calls Try.prog 11 #[.agg #[.slice A n c, .int .i64 lf, .int .i64 lu], .int .i64 x] w fun e w' => e = .returned (.tuple #[.int .i64 (vI (onB l lf lu x) (hAt l x)), .int .i64 (onI l lf lu x)]) ∧ Below w.heap.size w w' := by
  obtain ⟨q0, q1, q2, q3, q4⟩ := boxed w 26 (.slice A n c) (.int .i64 lf) (.int .i64 lu)
  have HV := Lib.hid (onTrack_any A n c lf lu l x _ (hs.below q3 q3.size) hn)
  have HB := Lib.hid q3
  have HZ := Lib.hid q4
  have HC := Lib.hid (And.intro q0 (And.intro q1 q2))
  have HS := Lib.hid hs
  clear q0 q1 q2 q3 q4 hs
  cases hv : trackB l lf lu
  · have e1 := onI_bad (x := x) hv
    have e2 : onB l lf lu x = false := by simp [onB, hv]
    rw [e1] at HV ⊢
    rw [e2]
    clear e1 e2 hv
    go_enter Try.func11, Try.ntmps11
    go_wp2_with (go_at_call 26; refine HV.out.mono ?_; rintro e w1 ⟨rfl, hb⟩)
    go_ret2
    exact ⟨rfl, HB.out.trans (hb.mono (by have := HZ.out; omega))⟩
  cases hx : inB x 0 (lenAll l)
  · have e1 := onI_out hv hx
    have e2 : onB l lf lu x = false := by simp [onB, hx]
    rw [e1] at HV ⊢
    rw [e2]
    clear e1 e2 hv hx
    go_enter Try.func11, Try.ntmps11
    go_wp2_with (go_at_call 26; refine HV.out.mono ?_; rintro e w1 ⟨rfl, hb⟩)
    go_ret2
    exact ⟨rfl, HB.out.trans (hb.mono (by have := HZ.out; omega))⟩
  · have e1 := onI_in hv hx
    have e2 : onB l lf lu x = true := by simp [onB, hv, hx]
    rw [e1] at HV ⊢
    rw [e2]
    have hval := trackB_iff.1 hv
    have hg := hval.good
    obtain ⟨x1, x2⟩ := inB_iff.1 hx
    have hlen := hval.len
    have hlen0 := (lenAll_bds hg).1
    clear e1 e2 hx hv
    go_enter Try.func11, Try.ntmps11
    go_wp2_with fail
    generalize w.alloc (.cells #[.slice A n c, .int .i64 lf, .int .i64 lu] 26) = W0 at *
    refine HV.out.mono ?_
    rintro e w1 ⟨rfl, hb⟩
    obtain ⟨q0, q1, q2⟩ := HC.out
    have hz : w.heap.size < W0.heap.size := by have := HZ.out; omega
    have r0 := (hb.cell (p := ⟨w.heap.size, 0, none⟩) hz).trans q0
    have r1 := (hb.cell (p := ⟨w.heap.size, 1, none⟩) hz).trans q1
    have r2 := (hb.cell (p := ⟨w.heap.size, 2, none⟩) hz).trans q2
    have B1 : Hid (Below w.heap.size w w1) := HB.out.trans (hb.mono (by omega))
    have HL := Lib.hid (heightAt_any A n c lf lu l x w1 (HS.out.below B1.out B1.out.size) hg ⟨x1, by omega⟩)
    clear q0 q1 q2 hz hb
    go_wp2_with (go_at_call 27; refine HL.out.mono ?_; rintro e w2 ⟨rfl, hb2⟩)
    go_ret2
    exact ⟨rfl, B1.out.trans (hb2.mono B1.out.size)⟩
theorem specHeightAt_any (A : Option Addr) (n c : Nat) (lf lu : Int) (l : List (Int × Int)) (x : Int) (w : World) (hs : Secs w w.heap.size A n l) (hn : n ≤ 1048576) :
    Calls Try.prog 14 #[.agg #[.slice A n c, .int .i64 lf, .int .i64 lu], .int .i64 x] w fun e w' => e = .returned (.tuple #[.int .i64 (vI (onB l lf lu x) (hAt l x)), .int .i64 (onI l lf lu x)]) ∧ Below w.heap.size w w' := by
  obtain ⟨q0, q1, q2, q3, q4⟩ := boxed w 26 (.slice A n c) (.int .i64 lf) (.int .i64 lu)
  have HV := Lib.hid (specAsk_any w.heap.size A n c lf lu l x _ _ q0 q1 q2 (hs.below q3 (Nat.le_refl _)) (by omega))
  have HB := Lib.hid q3
  have HC := Lib.hid (And.intro q0 (And.intro q1 q2))
  have HS := Lib.hid hs
  clear q0 q1 q2 q3 q4 hs
  cases hv : trackB l lf lu
  · have e1 := onI_bad (x := x) hv
    have e2 : onB l lf lu x = false := by simp [onB, hv]
    rw [e1] at HV ⊢
    rw [e2]
    clear e1 e2 hv
    go_enter Try.func14, Try.ntmps14
    go_wp2_with (go_at_call 31; refine HV.out.mono ?_; rintro e w1 ⟨rfl, m, rfl⟩)
    go_ret2
    exact ⟨rfl, HB.out.trans (drew_below rfl _)⟩
  cases hx : inB x 0 (lenAll l)
  · have e1 := onI_out hv hx
    have e2 : onB l lf lu x = false := by simp [onB, hx]
    rw [e1] at HV ⊢
    rw [e2]
    clear e1 e2 hv hx
    go_enter Try.func14, Try.ntmps14
    go_wp2_with (go_at_call 31; refine HV.out.mono ?_; rintro e w1 ⟨rfl, m, rfl⟩)
    go_ret2
    exact ⟨rfl, HB.out.trans (drew_below rfl _)⟩
  · have e1 := onI_in hv hx
    have e2 : onB l lf lu x = true := by simp [onB, hv, hx]
    rw [e1] at HV ⊢
    rw [e2]
    have hval := trackB_iff.1 hv
    have hg := hval.good
    obtain ⟨x1, x2⟩ := inB_iff.1 hx
    have hlen := hval.len
    have hlen0 := (lenAll_bds hg).1
    have HL := Lib.hid (fun (m : Nat) => specHeight_any w.heap.size A n c l x w.heap.size ((w.alloc (.cells #[.slice A n c, .int .i64 lf, .int .i64 lu] 26)).drewN m) HC.out.1 (HS.out.below (HB.out.trans (drew_below rfl _)) (Nat.le_refl _)) hg ⟨x1, by omega⟩)
    clear e1 e2 hx hv
    go_enter Try.func14, Try.ntmps14
    go_wp2_with (first | (go_at_call 31; refine HV.out.mono ?_; rintro e w1 ⟨rfl, m, rfl⟩) | (go_at_call 32; refine (HL.out _).mono ?_; rintro e w2 ⟨rfl, rfl⟩))
    go_ret2
    exact ⟨rfl, HB.out.trans (drew_below rfl _)⟩
theorem implGradeAt_any (A : Option Addr) (n c : Nat) (lf lu : Int) (l : List (Int × Int)) (x : Int) (w : World) (hs : Secs w w.heap.size A n l) (hn : n ≤ 1048576) :
    Calls Try.prog 12 #[.agg #[.slice A n c, .int .i64 lf, .int .i64 lu], .int .i64 x] w fun e w' => e = .returned (.tuple #[.int .i64 (vI (onB l lf lu x) (secG l (secN l x))), .int .i64 (onI l lf lu x)]) ∧ Below w.heap.size w w' := by
  obtain ⟨q0, q1, q2, q3, q4⟩ := boxed w 26 (.slice A n c) (.int .i64 lf) (.int .i64 lu)
  have HV := Lib.hid (onTrack_any A n c lf lu l x _ (hs.below q3 q3.size) hn)
  have HB := Lib.hid q3
  have HZ := Lib.hid q4
  have HC := Lib.hid (And.intro q0 (And.intro q1 q2))
  have HS := Lib.hid hs
  clear q0 q1 q2 q3 q4 hs
  cases hv : trackB l lf lu
  · have e1 := onI_bad (x := x) hv
    have e2 : onB l lf lu x = false := by simp [onB, hv]
    rw [e1] at HV ⊢
    rw [e2]
    clear e1 e2 hv
    go_enter Try.func12, Try.ntmps12
    go_wp2_with (go_at_call 26; refine HV.out.mono ?_; rintro e w1 ⟨rfl, hb⟩)
    go_ret2
    exact ⟨rfl, HB.out.trans (hb.mono (by have := HZ.out; omega))⟩
  cases hx : inB x 0 (lenAll l)
  · have e1 := onI_out hv hx
    have e2 : onB l lf lu x = false := by simp [onB, hx]
    rw [e1] at HV ⊢
    rw [e2]
    clear e1 e2 hv hx
    go_enter Try.func12, Try.ntmps12
    go_wp2_with (go_at_call 26; refine HV.out.mono ?_; rintro e w1 ⟨rfl, hb⟩)
    go_ret2
    exact ⟨rfl, HB.out.trans (hb.mono (by have := HZ.out; omega))⟩
  · have e1 := onI_in hv hx
    have e2 : onB l lf lu x = true := by simp [onB, hv, hx]
    rw [e1] at HV ⊢
    rw [e2]
    have hval := trackB_iff.1 hv
    have hg := hval.good
    obtain ⟨x1, x2⟩ := inB_iff.1 hx
    have hlen := hval.len
    have hlen0 := (lenAll_bds hg).1
    have hpos := hval.some_
    clear e1 e2 hx hv
    go_enter Try.func12, Try.ntmps12
    go_wp2_with fail
    generalize w.alloc (.cells #[.slice A n c, .int .i64 lf, .int .i64 lu] 26) = W0 at *
    refine HV.out.mono ?_
    rintro e w1 ⟨rfl, hb⟩
    obtain ⟨q0, q1, q2⟩ := HC.out
    have hz : w.heap.size < W0.heap.size := by have := HZ.out; omega
    have r0 := (hb.cell (p := ⟨w.heap.size, 0, none⟩) hz).trans q0
    have r1 := (hb.cell (p := ⟨w.heap.size, 1, none⟩) hz).trans q1
    have r2 := (hb.cell (p := ⟨w.heap.size, 2, none⟩) hz).trans q2
    have B1 : Hid (Below w.heap.size w w1) := HB.out.trans (hb.mono (by omega))
    have HL := Lib.hid (gradeAt_any A n c lf lu l x w1 (HS.out.below B1.out B1.out.size) hg ⟨x1, by omega⟩ hpos)
    clear q0 q1 q2 hz hb
    go_wp2_with (go_at_call 28; refine HL.out.mono ?_; rintro e w2 ⟨rfl, hb2⟩)
    go_ret2
    exact ⟨rfl, B1.out.trans (hb2.mono B1.out.size)⟩
end Go.Proofs.Ytcpppiafjlgimaa.TrkG
