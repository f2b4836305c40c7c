/- Whether lists of bends are valid, program and reference. -/
import Derived.Test.YtlknncmnphbpkaaGreatDoorBlsA
import Derived.WalkLawsBesides
import Derived.Deep.RegionHeld3
import Derived.Outline
import Derived.BigQuiet
namespace Go.Proofs.YtlknncmnphbpkaaGreatDoor.BlsD
open Go.RowKit Go.Proofs.YtlknncmnphbpkaaGreatDoor.Plain Go.Proofs.YtlknncmnphbpkaaGreatDoor.WalkA Go.Proofs.YtlknncmnphbpkaaGreatDoor.WalkB Go.Proofs.YtlknncmnphbpkaaGreatDoor.WalkC Go.Proofs.YtlknncmnphbpkaaGreatDoor.WalkF Go.Proofs.YtlknncmnphbpkaaGreatDoor.WalkH Go.Proofs.YtlknncmnphbpkaaGreatDoor.BndA Go.Proofs.YtlknncmnphbpkaaGreatDoor.BLaw Go.Proofs.YtlknncmnphbpkaaGreatDoor.BlsA

theorem less_or : ∀ (x y : List UInt8), (Op.bytesLess x y || x == y) = !(Op.bytesLess y x)
  | [], [] => rfl
  | [], _ :: _ => rfl
  | _ :: _, [] => rfl
  | a :: x, b :: y => by
    have ih := less_or x y
    by_cases h1 : a < b
    · have h2 : ¬ b < a := by simp only [UInt8.lt_iff_toNat_lt] at *; omega
      have h3 : (b == a) = false := by rw [beq_eq_false_iff_ne]; rintro rfl; exact h2 h1
      simp [Op.bytesLess, h1, h2, h3]
    · by_cases h2 : b < a
      · have h3 : (a == b) = false := by rw [beq_eq_false_iff_ne]; rintro rfl; exact h1 h2
        have h4 : a ≠ b := by rintro rfl; exact h1 h2
        simp [Op.bytesLess, h1, h2, h4]
      · have e : a = b := by
          have : a.toNat = b.toNat := by simp only [UInt8.lt_iff_toNat_lt] at *; omega
          exact UInt8.toNat_inj.1 this
        subst e
        simpa [Op.bytesLess, h1] using ih

def bOne (x : Bnd) : Bool := bendB x.s x.r x.l x.c
/-- A bend is valid and comes behind the one before it. -/
def stepB (bl : List Bnd) (i : Nat) : Bool := bOne (bAt bl i) && (i == 0 || Op.bytesLess (bAt bl (i - 1)).s.toList (bAt bl i).s.toList)
def okTo (bl : List Bnd) : Nat → Bool
  | 0 => true
  | k + 1 => okTo bl k && stepB bl k
def listB (bl : List Bnd) : Bool := okTo bl bl.length && decide (bl.length ≤ 12)
theorem okTo_false {bl : List Bnd} {k n : Nat} (h : okTo bl k = false) (hk : k ≤ n) : okTo bl n = false := by
  induction n with
  | zero => obtain rfl : k = 0 := by omega
            exact h
  | succ n ih =>
    rcases Nat.lt_or_ge n k with h1 | h1
    · obtain rfl : k = n + 1 := by omega
      exact h
    · simp [okTo, ih h1]
theorem okTo_at {bl : List Bnd} {n : Nat} (h : okTo bl n = true) (i : Nat) (hi : i < n) : stepB bl i = true := by
  induction n with
  | zero => omega
  | succ n ih =>
    simp only [okTo, Bool.and_eq_true] at h
    rcases Nat.lt_or_ge i n with h1 | h1
    · exact ih h.1 h1
    · obtain rfl : i = n := by omega
      exact h.2
theorem listB_step {bl : List Bnd} {k : Nat} (hk : k < bl.length) (h : stepB bl k = false) : listB bl = false := by
  have : okTo bl bl.length = false := okTo_false (k := k + 1) (by simp [okTo, h]) hk
  simp [listB, this]
theorem listB_done {bl : List Bnd} (h : okTo bl bl.length = true) : listB bl = decide ((bl.length : Int) ≤ 12) := by
  simp only [listB, h, Bool.true_and]
  exact decide_eq_decide.2 (by omega)
theorem listB_at {bl : List Bnd} (h : listB bl = true) (i : Nat) (hi : i < bl.length) : bOne (bAt bl i) = true := by
  simp only [listB, Bool.and_eq_true] at h
  have := okTo_at h.1 i hi
  simp only [stepB, Bool.and_eq_true] at this
  exact this.1
theorem listB_len {bl : List Bnd} (h : listB bl = true) : bl.length ≤ 12 := by
  simp only [listB, Bool.and_eq_true] at h
  exact of_decide_eq_true h.2

theorem drew_moreL {w wr : World} (h : ∃ n, wr = w.drewN n) (m : Nat) : ∃ n, wr.drewN m = w.drewN n := by
  obtain ⟨n, rfl⟩ := h
  exact ⟨n + m, World.drewN_drewN ..⟩
theorem keepP {p b o : Nat} {W wc w2 : World} {v0 v1 v2 v3 u : Value} (hp : p < W.heap.size) (hq : b < W.heap.size) (h0 : wc.cell? ⟨p, 0, none⟩ = some v0) (h1 : wc.cell? ⟨p, 1, none⟩ = some v1) (h2 : wc.cell? ⟨p, 2, none⟩ = some v2) (h3 : wc.cell? ⟨p, 3, none⟩ = some v3) (hu : wc.cell? ⟨b, o, none⟩ = some u)
    (hb : Below W.heap.size W wc) (h : Below wc.heap.size wc w2) :
    w2.cell? ⟨p, 0, none⟩ = some v0 ∧ w2.cell? ⟨p, 1, none⟩ = some v1 ∧ w2.cell? ⟨p, 2, none⟩ = some v2 ∧ w2.cell? ⟨p, 3, none⟩ = some v3 ∧ w2.cell? ⟨b, o, none⟩ = some u ∧ Below W.heap.size W w2 :=
  have a := hb.size
  have z0 : p < wc.heap.size := by omega
  have z1 : b < wc.heap.size := by omega
  ⟨(h.cell (p := ⟨p, 0, none⟩) z0).trans h0, (h.cell (p := ⟨p, 1, none⟩) z0).trans h1, (h.cell (p := ⟨p, 2, none⟩) z0).trans h2, (h.cell (p := ⟨p, 3, none⟩) z0).trans h3, (h.cell (p := ⟨b, o, none⟩) z1).trans hu, hb.trans (h.mono a)⟩
theorem le_form {a b : List UInt8} {v : Bool} (h : Op.bytesLess b a = v) : (Op.bytesLess a b || a == b) = !v := by rw [less_or, h]
set_option linter.unusedSimpArgs false in
set_option maxHeartbeats 4000000 in
theorem implListOk_any (A : Option Addr) (n c : Nat) (bl : List Bnd) (w : World) (hs : Bnds w w.heap.size A n bl) (hn : n ≤ 9223372036854775807) :
    Calls Tryz.prog 30 #[.slice A n c] w fun e w' => e = .returned (.bool (listB bl)) ∧ Below w.heap.size w w' := by
  have HS := Lib.hid hs
  obtain ⟨rfl, hz, _⟩ := hs
  have HZ := Lib.hid hz
  clear hz
  go_enter Tryz.func30, Tryz.ntmps30
  go_wp2
  go_loopw [7] (fun i wr => ∃ k : Nat, k ≤ bl.length ∧ i = .int .i64 k ∧ Hid (Below w.heap.size w wr) ∧ Hid (okTo bl k = true)) (fun i _ => bl.length - (intOf i).toNat)
  case atStart => exact ⟨0, Nat.zero_le _, rfl, Below.refl _ _, rfl⟩
  case round =>
    obtain ⟨k, hk, rfl, hw, hu⟩ := hrel
    by_cases hlt : k < bl.length
    · obtain ⟨b, off, rfl, hb, hc⟩ := (HS.out.below hw.out hw.out.size).2.2 (by omega)
      have cp0 := (hc (k - 1) (by omega)).1
      obtain ⟨c0, c1, c2, c3⟩ := hc k hlt
      have hzk := HZ.out k hlt
      have HF : Hid (stepB bl k = false → listB bl = false) := fun h => listB_step hlt h
      have HT : Hid (stepB bl k = true → okTo bl (k + 1) = true) := fun h => by show (okTo bl k && stepB bl k) = true; rw [hu.out, h]; rfl
      have HO : Hid (stepB bl k = (bOne (bAt bl k) && (k == 0 || Op.bytesLess (bAt bl (k - 1)).s.toList (bAt bl k).s.toList))) := rfl
      clear hc
      generalize (bAt bl (k - 1)).s = p at *
      generalize bAt bl k = x at *
      generalize stepB bl k = sb at *
      obtain ⟨s, r, l, q⟩ := x
      have HO2 : Hid (sb = (bendB s r l q && (k == 0 || Op.bytesLess p.toList s.toList))) := HO.out
      clear HO
      have HV := Lib.hid (fun W => validBend_any s r l q hzk W)
      obtain ⟨q0, q1, q2, q3, q4, q5⟩ := boxed4 wr 25 (.string s) (.int .i64 r) (.int .i64 l) (.int .i64 q)
      have HB := Lib.hid q4
      have hp : wr.heap.size < (wr.alloc (.cells #[.string s, .int .i64 r, .int .i64 l, .int .i64 q] 25)).heap.size := by omega
      have hb0 : b < (wr.alloc (.cells #[.string s, .int .i64 r, .int .i64 l, .int .i64 q] 25)).heap.size := by omega
      have cp : (wr.alloc (.cells #[.string s, .int .i64 r, .int .i64 l, .int .i64 q] 25)).cell? ⟨b, off + (k - 1) * 4, none⟩ = some (.string p) := (q4.cell (p := ⟨b, off + (k - 1) * 4, none⟩) hb).trans cp0
      clear q4 q5 hzk cp0
      cases hv : bendB s r l q
      · rw [hv] at HV
        have HL : Hid (listB bl = false) := HF.out (by rw [HO2.out, hv]; rfl)
        go_wp2
        generalize wr.alloc (.cells #[.string s, .int .i64 r, .int .i64 l, .int .i64 q] 25) = W0 at *
        have HB2 : Hid (∀ W, Below W0.heap.size W0 W → Below w.heap.size w W) := fun W hW => hw.out.trans ((HB.out.trans (hW.mono (by omega))).mono hw.out.size)
        refine wp_region_held_drew (S := (fun w' => w'.cell? ⟨wr.heap.size, 0, none⟩ = some (.string s) ∧ w'.cell? ⟨wr.heap.size, 1, none⟩ = some (.int .i64 r) ∧ w'.cell? ⟨wr.heap.size, 2, none⟩ = some (.int .i64 l) ∧ w'.cell? ⟨wr.heap.size, 3, none⟩ = some (.int .i64 q) ∧ w'.cell? ⟨b, off + (k - 1) * 4, none⟩ = some (.string p) ∧ Below W0.heap.size W0 w')) (by kernel_rfl) ⟨q0, q1, q2, q3, cp, (Below.refl _ _).drew⟩ (fun hHeld => ?_)
        refine wpAnyH_take (i := 0) (v := ?va0) (by simp only [List.getElem?_toArray, List.getElem?_cons_succ, List.getElem?_cons_zero]; exact rfl) (by kernel_rfl) (by kernel_rfl) (by kernel_rfl) (by exact fun _ _ _ h => h) (Or.inl ⟨by kernel_rfl, ?ha0⟩) (by assumption) ?ra0
        case ha0 => (intro w hSw; (try dsimp only at hSw); go_simp; try (with_reducible rfl))
        try simp only [Act.put, List.setIfInBounds_toArray, List.set_cons_zero, List.set_cons_succ]
        refine wpAnyH_ready (rs := [1]) (by kernel_rfl) (by simp) ?_
        refine AllReadyH.cons rfl (fun K hK => ?_) AllReadyH.nil
        go_simp
        (refine (HV.out _).mono ?_; rintro e w2 ⟨rfl, hb2⟩)
        refine hK.out _ _ ?_ (fun hHeld => ?_)
        · (first | (go_split_ands; exact ⟨by assumption, by assumption, by assumption, by assumption, by assumption, by assumption⟩) | (go_split_ands; exact keepP hp hb0 (by assumption) (by assumption) (by assumption) (by assumption) (by assumption) (by first | assumption | exact Below.refl _ _) (by assumption)))
        clear hK K
        try simp only [Act.put, List.setIfInBounds_toArray, List.set_cons_zero, List.set_cons_succ]
        refine wpAnyH_take (i := 2) (v := ?va2) (by simp only [List.getElem?_toArray, List.getElem?_cons_succ, List.getElem?_cons_zero]; exact rfl) (by kernel_rfl) (by kernel_rfl) (by kernel_rfl) (by exact fun _ _ _ h => h) (Or.inl ⟨by kernel_rfl, ?ha2⟩) (by assumption) ?ra2
        case ha2 => (intro w hSw; (try dsimp only at hSw); go_simp; try (with_reducible rfl))
        try simp only [Act.put, List.setIfInBounds_toArray, List.set_cons_zero, List.set_cons_succ]
        refine wpAnyH_take (i := 3) (v := ?va3) (by simp only [List.getElem?_toArray, List.getElem?_cons_succ, List.getElem?_cons_zero]; exact rfl) (by kernel_rfl) (by kernel_rfl) (by kernel_rfl) (by exact fun _ _ _ h => h) (Or.inl ⟨by kernel_rfl, ?ha3⟩) (by assumption) ?ra3
        case ha3 => (intro w hSw; (try dsimp only at hSw); go_simp; try (with_reducible rfl))
        try simp only [Act.put, List.setIfInBounds_toArray, List.set_cons_zero, List.set_cons_succ]
        refine wpAnyH_take (i := 4) (v := undef) (by simp only [List.getElem?_toArray, List.getElem?_cons_succ, List.getElem?_cons_zero]; exact rfl) (by kernel_rfl) (by kernel_rfl) (by kernel_rfl) (by exact fun _ _ _ h => h) (Or.inr ⟨by kernel_rfl, rfl⟩) (by assumption) ?_
        try simp only [Act.put, List.setIfInBounds_toArray, List.set_cons_zero, List.set_cons_succ]
        refine wpAnyH_take (i := 5) (v := undef) (by simp only [List.getElem?_toArray, List.getElem?_cons_succ, List.getElem?_cons_zero]; exact rfl) (by kernel_rfl) (by kernel_rfl) (by kernel_rfl) (by exact fun _ _ _ h => h) (Or.inr ⟨by kernel_rfl, rfl⟩) (by assumption) ?_
        try simp only [Act.put, List.setIfInBounds_toArray, List.set_cons_zero, List.set_cons_succ]
        refine wpAnyH_take (i := 6) (v := undef) (by simp only [List.getElem?_toArray, List.getElem?_cons_succ, List.getElem?_cons_zero]; exact rfl) (by kernel_rfl) (by kernel_rfl) (by kernel_rfl) (by exact fun _ _ _ h => h) (Or.inr ⟨by kernel_rfl, rfl⟩) (by assumption) ?_
        try simp only [Act.put, List.setIfInBounds_toArray, List.set_cons_zero, List.set_cons_succ]
        refine wpAnyH_take (i := 7) (v := undef) (by simp only [List.getElem?_toArray, List.getElem?_cons_succ, List.getElem?_cons_zero]; exact rfl) (by kernel_rfl) (by kernel_rfl) (by kernel_rfl) (by exact fun _ _ _ h => h) (Or.inr ⟨by kernel_rfl, rfl⟩) (by assumption) ?_
        try simp only [Act.put, List.setIfInBounds_toArray, List.set_cons_zero, List.set_cons_succ]
        refine wpAnyH_take (i := 8) (v := undef) (by simp only [List.getElem?_toArray, List.getElem?_cons_succ, List.getElem?_cons_zero]; exact rfl) (by kernel_rfl) (by kernel_rfl) (by kernel_rfl) (by exact fun _ _ _ h => h) (Or.inr ⟨by kernel_rfl, rfl⟩) (by assumption) ?_
        try simp only [Act.put, List.setIfInBounds_toArray, List.set_cons_zero, List.set_cons_succ]
        refine wpAnyH_take (i := 9) (v := undef) (by simp only [List.getElem?_toArray, List.getElem?_cons_succ, List.getElem?_cons_zero]; exact rfl) (by kernel_rfl) (by kernel_rfl) (by kernel_rfl) (by exact fun _ _ _ h => h) (Or.inr ⟨by kernel_rfl, rfl⟩) (by assumption) ?_
        try simp only [Act.put, List.setIfInBounds_toArray, List.set_cons_zero, List.set_cons_succ]
        refine wpAnyH_take (i := 10) (v := undef) (by simp only [List.getElem?_toArray, List.getElem?_cons_succ, List.getElem?_cons_zero]; exact rfl) (by kernel_rfl) (by kernel_rfl) (by kernel_rfl) (by exact fun _ _ _ h => h) (Or.inr ⟨by kernel_rfl, rfl⟩) (by assumption) ?_
        try simp only [Act.put, List.setIfInBounds_toArray, List.set_cons_zero, List.set_cons_succ]
        refine wpAnyH_take (i := 11) (v := undef) (by simp only [List.getElem?_toArray, List.getElem?_cons_succ, List.getElem?_cons_zero]; exact rfl) (by kernel_rfl) (by kernel_rfl) (by kernel_rfl) (by exact fun _ _ _ h => h) (Or.inr ⟨by kernel_rfl, rfl⟩) (by assumption) ?_
        try simp only [Act.put, List.setIfInBounds_toArray, List.set_cons_zero, List.set_cons_succ]
        refine wpAnyH_take (i := 12) (v := undef) (by simp only [List.getElem?_toArray, List.getElem?_cons_succ, List.getElem?_cons_zero]; exact rfl) (by kernel_rfl) (by kernel_rfl) (by kernel_rfl) (by exact fun _ _ _ h => h) (Or.inr ⟨by kernel_rfl, rfl⟩) (by assumption) ?_
        try simp only [Act.put, List.setIfInBounds_toArray, List.set_cons_zero, List.set_cons_succ]
        refine wpAnyH_take (i := 13) (v := undef) (by simp only [List.getElem?_toArray, List.getElem?_cons_succ, List.getElem?_cons_zero]; exact rfl) (by kernel_rfl) (by kernel_rfl) (by kernel_rfl) (by exact fun _ _ _ h => h) (Or.inr ⟨by kernel_rfl, rfl⟩) (by assumption) ?_
        try simp only [Act.put, List.setIfInBounds_toArray, List.set_cons_zero, List.set_cons_succ]
        refine wpAnyH_take (i := 14) (v := undef) (by simp only [List.getElem?_toArray, List.getElem?_cons_succ, List.getElem?_cons_zero]; exact rfl) (by kernel_rfl) (by kernel_rfl) (by kernel_rfl) (by exact fun _ _ _ h => h) (Or.inr ⟨by kernel_rfl, rfl⟩) (by assumption) ?_
        try simp only [Act.put, List.setIfInBounds_toArray, List.set_cons_zero, List.set_cons_succ]
        refine wpAnyH_take (i := 15) (v := undef) (by simp only [List.getElem?_toArray, List.getElem?_cons_succ, List.getElem?_cons_zero]; exact rfl) (by kernel_rfl) (by kernel_rfl) (by kernel_rfl) (by exact fun _ _ _ h => h) (Or.inr ⟨by kernel_rfl, rfl⟩) (by assumption) ?_
        try simp only [Act.put, List.setIfInBounds_toArray, List.set_cons_zero, List.set_cons_succ]
        refine wpAnyH_take (i := 16) (v := undef) (by simp only [List.getElem?_toArray, List.getElem?_cons_succ, List.getElem?_cons_zero]; exact rfl) (by kernel_rfl) (by kernel_rfl) (by kernel_rfl) (by exact fun _ _ _ h => h) (Or.inr ⟨by kernel_rfl, rfl⟩) (by assumption) ?_
        try simp only [Act.put, List.setIfInBounds_toArray, List.set_cons_zero, List.set_cons_succ]
        refine wpAnyH_take (i := 17) (v := ?va17) (by simp only [List.getElem?_toArray, List.getElem?_cons_succ, List.getElem?_cons_zero]; exact rfl) (by kernel_rfl) (by kernel_rfl) (by kernel_rfl) (by exact fun _ _ _ h => h) (Or.inl ⟨by kernel_rfl, ?ha17⟩) (by assumption) ?ra17
        case ha17 => (intro w hSw; (try dsimp only at hSw); go_simp; try (with_reducible rfl))
        try simp only [Act.put, List.setIfInBounds_toArray, List.set_cons_zero, List.set_cons_succ]
        refine wpAnyH_done (by kernel_rfl) ?_ _
        go_wp2
        go_ret
        exact ⟨ret_bool HL.out.symm, HB2.out _ (by go_split_ands; assumption)⟩
      rw [hv] at HV
      by_cases h0 : 0 < k
      · have hd : decide ((0 : Int) < (k : Int)) = true := decide_eq_true (by omega)
        have i1 : IntKind.i64.wrap ((k : Int) - 1) = (k : Int) - 1 := IntWalk.i64_in _ (by omega)
        have i2 : (0 : Int) ≤ (k : Int) - 1 := by omega
        have i3 : (k : Int) - 1 < (bl.length : Int) := by omega
        have i4 : ((k : Int) - 1).toNat = k - 1 := by omega
        have i5 : (1 : Int) ≤ (k : Int) := by omega
        cases hl : Op.bytesLess p.toList s.toList
        · have hl2 := le_form hl
          have HL : Hid (listB bl = false) := HF.out (by rw [HO2.out, hl]; simp; omega)
          go_wp2
          generalize wr.alloc (.cells #[.string s, .int .i64 r, .int .i64 l, .int .i64 q] 25) = W0 at *
          have HB2 : Hid (∀ W, Below W0.heap.size W0 W → Below w.heap.size w W) := fun W hW => hw.out.trans ((HB.out.trans (hW.mono (by omega))).mono hw.out.size)
          go_region_held3 (fun w' => w'.cell? ⟨wr.heap.size, 0, none⟩ = some (.string s) ∧ w'.cell? ⟨wr.heap.size, 1, none⟩ = some (.int .i64 r) ∧ w'.cell? ⟨wr.heap.size, 2, none⟩ = some (.int .i64 l) ∧ w'.cell? ⟨wr.heap.size, 3, none⟩ = some (.int .i64 q) ∧ w'.cell? ⟨b, off + (k - 1) * 4, none⟩ = some (.string p) ∧ Below W0.heap.size W0 w')
            (first | exact ⟨q0, q1, q2, q3, cp, (Below.refl _ _).drew⟩ | (go_split_ands; exact ⟨by assumption, by assumption, by assumption, by assumption, by assumption, by assumption⟩) | (go_split_ands; exact keepP hp hb0 (by assumption) (by assumption) (by assumption) (by assumption) (by assumption) (by first | assumption | exact Below.refl _ _) (by assumption)))
            (first | (go_at_call 22; refine (HV.out _).mono ?_; rintro e w2 ⟨rfl, hb2⟩))
          go_wp2
          go_ret
          exact ⟨ret_bool HL.out.symm, HB2.out _ (by go_split_ands; assumption)⟩
        · have hl2 := le_form hl
          have HK : Hid (okTo bl (k + 1) = true) := HT.out (by rw [HO2.out, hv, hl]; simp)
          go_wp2
          generalize wr.alloc (.cells #[.string s, .int .i64 r, .int .i64 l, .int .i64 q] 25) = W0 at *
          have HB2 : Hid (∀ W, Below W0.heap.size W0 W → Below w.heap.size w W) := fun W hW => hw.out.trans ((HB.out.trans (hW.mono (by omega))).mono hw.out.size)
          go_region_held3 (fun w' => w'.cell? ⟨wr.heap.size, 0, none⟩ = some (.string s) ∧ w'.cell? ⟨wr.heap.size, 1, none⟩ = some (.int .i64 r) ∧ w'.cell? ⟨wr.heap.size, 2, none⟩ = some (.int .i64 l) ∧ w'.cell? ⟨wr.heap.size, 3, none⟩ = some (.int .i64 q) ∧ w'.cell? ⟨b, off + (k - 1) * 4, none⟩ = some (.string p) ∧ Below W0.heap.size W0 w')
            (first | exact ⟨q0, q1, q2, q3, cp, (Below.refl _ _).drew⟩ | (go_split_ands; exact ⟨by assumption, by assumption, by assumption, by assumption, by assumption, by assumption⟩) | (go_split_ands; exact keepP hp hb0 (by assumption) (by assumption) (by assumption) (by assumption) (by assumption) (by first | assumption | exact Below.refl _ _) (by assumption)))
            (first | (go_at_call 22; refine (HV.out _).mono ?_; rintro e w2 ⟨rfl, hb2⟩))
          go_wp2
          go_roundw
          case rel => exact ⟨k + 1, by omega, by go_num, HB2.out _ (by go_split_ands; assumption), HK⟩
          case measure => simp [intOf]; omega
      · have hd : decide ((0 : Int) < (k : Int)) = false := decide_eq_false (by omega)
        have HK : Hid (okTo bl (k + 1) = true) := HT.out (by rw [HO2.out, hv]; simp; omega)
        go_wp2
        generalize wr.alloc (.cells #[.string s, .int .i64 r, .int .i64 l, .int .i64 q] 25) = W0 at *
        have HB2 : Hid (∀ W, Below W0.heap.size W0 W → Below w.heap.size w W) := fun W hW => hw.out.trans ((HB.out.trans (hW.mono (by omega))).mono hw.out.size)
        refine wp_region_held_drew (S := (fun w' => w'.cell? ⟨wr.heap.size, 0, none⟩ = some (.string s) ∧ w'.cell? ⟨wr.heap.size, 1, none⟩ = some (.int .i64 r) ∧ w'.cell? ⟨wr.heap.size, 2, none⟩ = some (.int .i64 l) ∧ w'.cell? ⟨wr.heap.size, 3, none⟩ = some (.int .i64 q) ∧ w'.cell? ⟨b, off + (k - 1) * 4, none⟩ = some (.string p) ∧ Below W0.heap.size W0 w')) (by kernel_rfl) ⟨q0, q1, q2, q3, cp, (Below.refl _ _).drew⟩ (fun hHeld => ?_)
        refine wpAnyH_take (i := 0) (v := ?vb0) (by simp only [List.getElem?_toArray, List.getElem?_cons_succ, List.getElem?_cons_zero]; exact rfl) (by kernel_rfl) (by kernel_rfl) (by kernel_rfl) (by exact fun _ _ _ h => h) (Or.inl ⟨by kernel_rfl, ?hb0⟩) (by assumption) ?rb0
        case hb0 => (intro w hSw; (try dsimp only at hSw); go_simp; try (with_reducible rfl))
        try simp only [Act.put, List.setIfInBounds_toArray, List.set_cons_zero, List.set_cons_succ]
        refine wpAnyH_ready (rs := [1]) (by kernel_rfl) (by simp) ?_
        refine AllReadyH.cons rfl (fun K hK => ?_) AllReadyH.nil
        go_simp
        (refine (HV.out _).mono ?_; rintro e w2 ⟨rfl, hb2⟩)
        refine hK.out _ _ ?_ (fun hHeld => ?_)
        · (first | (go_split_ands; exact ⟨by assumption, by assumption, by assumption, by assumption, by assumption, by assumption⟩) | (go_split_ands; exact keepP hp hb0 (by assumption) (by assumption) (by assumption) (by assumption) (by assumption) (by first | assumption | exact Below.refl _ _) (by assumption)))
        clear hK K
        try simp only [Act.put, List.setIfInBounds_toArray, List.set_cons_zero, List.set_cons_succ]
        refine wpAnyH_take (i := 2) (v := ?vb2) (by simp only [List.getElem?_toArray, List.getElem?_cons_succ, List.getElem?_cons_zero]; exact rfl) (by kernel_rfl) (by kernel_rfl) (by kernel_rfl) (by exact fun _ _ _ h => h) (Or.inl ⟨by kernel_rfl, ?hb2⟩) (by assumption) ?rb2
        case hb2 => (intro w hSw; (try dsimp only at hSw); go_simp; try (with_reducible rfl))
        try simp only [Act.put, List.setIfInBounds_toArray, List.set_cons_zero, List.set_cons_succ]
        refine wpAnyH_take (i := 3) (v := ?vb3) (by simp only [List.getElem?_toArray, List.getElem?_cons_succ, List.getElem?_cons_zero]; exact rfl) (by kernel_rfl) (by kernel_rfl) (by kernel_rfl) (by exact fun _ _ _ h => h) (Or.inl ⟨by kernel_rfl, ?hb3⟩) (by assumption) ?rb3
        case hb3 => (intro w hSw; (try dsimp only at hSw); go_simp; try (with_reducible rfl))
        try simp only [Act.put, List.setIfInBounds_toArray, List.set_cons_zero, List.set_cons_succ]
        refine wpAnyH_take (i := 4) (v := ?vb4) (by simp only [List.getElem?_toArray, List.getElem?_cons_succ, List.getElem?_cons_zero]; exact rfl) (by kernel_rfl) (by kernel_rfl) (by kernel_rfl) (by exact fun _ _ _ h => h) (Or.inl ⟨by kernel_rfl, ?hb4⟩) (by assumption) ?rb4
        case hb4 => (intro w hSw; (try dsimp only at hSw); go_simp; try (with_reducible rfl))
        try simp only [Act.put, List.setIfInBounds_toArray, List.set_cons_zero, List.set_cons_succ]
        refine wpAnyH_take (i := 5) (v := ?vb5) (by simp only [List.getElem?_toArray, List.getElem?_cons_succ, List.getElem?_cons_zero]; exact rfl) (by kernel_rfl) (by kernel_rfl) (by kernel_rfl) (by exact fun _ _ _ h => h) (Or.inl ⟨by kernel_rfl, ?hb5⟩) (by assumption) ?rb5
        case hb5 => (intro w hSw; (try dsimp only at hSw); go_simp; try (with_reducible rfl))
        try simp only [Act.put, List.setIfInBounds_toArray, List.set_cons_zero, List.set_cons_succ]
        refine wpAnyH_take (i := 6) (v := ?vb6) (by simp only [List.getElem?_toArray, List.getElem?_cons_succ, List.getElem?_cons_zero]; exact rfl) (by kernel_rfl) (by kernel_rfl) (by kernel_rfl) (by exact fun _ _ _ h => h) (Or.inl ⟨by kernel_rfl, ?hb6⟩) (by assumption) ?rb6
        case hb6 => (intro w hSw; (try dsimp only at hSw); go_simp; try (with_reducible rfl))
        try simp only [Act.put, List.setIfInBounds_toArray, List.set_cons_zero, List.set_cons_succ]
        refine wpAnyH_take (i := 7) (v := undef) (by simp only [List.getElem?_toArray, List.getElem?_cons_succ, List.getElem?_cons_zero]; exact rfl) (by kernel_rfl) (by kernel_rfl) (by kernel_rfl) (by exact fun _ _ _ h => h) (Or.inr ⟨by kernel_rfl, rfl⟩) (by assumption) ?_
        try simp only [Act.put, List.setIfInBounds_toArray, List.set_cons_zero, List.set_cons_succ]
        refine wpAnyH_take (i := 8) (v := undef) (by simp only [List.getElem?_toArray, List.getElem?_cons_succ, List.getElem?_cons_zero]; exact rfl) (by kernel_rfl) (by kernel_rfl) (by kernel_rfl) (by exact fun _ _ _ h => h) (Or.inr ⟨by kernel_rfl, rfl⟩) (by assumption) ?_
        try simp only [Act.put, List.setIfInBounds_toArray, List.set_cons_zero, List.set_cons_succ]
        refine wpAnyH_take (i := 9) (v := undef) (by simp only [List.getElem?_toArray, List.getElem?_cons_succ, List.getElem?_cons_zero]; exact rfl) (by kernel_rfl) (by kernel_rfl) (by kernel_rfl) (by exact fun _ _ _ h => h) (Or.inr ⟨by kernel_rfl, rfl⟩) (by assumption) ?_
        try simp only [Act.put, List.setIfInBounds_toArray, List.set_cons_zero, List.set_cons_succ]
        refine wpAnyH_take (i := 10) (v := undef) (by simp only [List.getElem?_toArray, List.getElem?_cons_succ, List.getElem?_cons_zero]; exact rfl) (by kernel_rfl) (by kernel_rfl) (by kernel_rfl) (by exact fun _ _ _ h => h) (Or.inr ⟨by kernel_rfl, rfl⟩) (by assumption) ?_
        try simp only [Act.put, List.setIfInBounds_toArray, List.set_cons_zero, List.set_cons_succ]
        refine wpAnyH_take (i := 11) (v := undef) (by simp only [List.getElem?_toArray, List.getElem?_cons_succ, List.getElem?_cons_zero]; exact rfl) (by kernel_rfl) (by kernel_rfl) (by kernel_rfl) (by exact fun _ _ _ h => h) (Or.inr ⟨by kernel_rfl, rfl⟩) (by assumption) ?_
        try simp only [Act.put, List.setIfInBounds_toArray, List.set_cons_zero, List.set_cons_succ]
        refine wpAnyH_take (i := 12) (v := undef) (by simp only [List.getElem?_toArray, List.getElem?_cons_succ, List.getElem?_cons_zero]; exact rfl) (by kernel_rfl) (by kernel_rfl) (by kernel_rfl) (by exact fun _ _ _ h => h) (Or.inr ⟨by kernel_rfl, rfl⟩) (by assumption) ?_
        try simp only [Act.put, List.setIfInBounds_toArray, List.set_cons_zero, List.set_cons_succ]
        refine wpAnyH_take (i := 13) (v := undef) (by simp only [List.getElem?_toArray, List.getElem?_cons_succ, List.getElem?_cons_zero]; exact rfl) (by kernel_rfl) (by kernel_rfl) (by kernel_rfl) (by exact fun _ _ _ h => h) (Or.inr ⟨by kernel_rfl, rfl⟩) (by assumption) ?_
        try simp only [Act.put, List.setIfInBounds_toArray, List.set_cons_zero, List.set_cons_succ]
        refine wpAnyH_take (i := 14) (v := undef) (by simp only [List.getElem?_toArray, List.getElem?_cons_succ, List.getElem?_cons_zero]; exact rfl) (by kernel_rfl) (by kernel_rfl) (by kernel_rfl) (by exact fun _ _ _ h => h) (Or.inr ⟨by kernel_rfl, rfl⟩) (by assumption) ?_
        try simp only [Act.put, List.setIfInBounds_toArray, List.set_cons_zero, List.set_cons_succ]
        refine wpAnyH_take (i := 15) (v := undef) (by simp only [List.getElem?_toArray, List.getElem?_cons_succ, List.getElem?_cons_zero]; exact rfl) (by kernel_rfl) (by kernel_rfl) (by kernel_rfl) (by exact fun _ _ _ h => h) (Or.inr ⟨by kernel_rfl, rfl⟩) (by assumption) ?_
        try simp only [Act.put, List.setIfInBounds_toArray, List.set_cons_zero, List.set_cons_succ]
        refine wpAnyH_take (i := 16) (v := ?vb16) (by simp only [List.getElem?_toArray, List.getElem?_cons_succ, List.getElem?_cons_zero]; exact rfl) (by kernel_rfl) (by kernel_rfl) (by kernel_rfl) (by exact fun _ _ _ h => h) (Or.inl ⟨by kernel_rfl, ?hb16⟩) (by assumption) ?rb16
        case hb16 => (intro w hSw; (try dsimp only at hSw); go_simp; try (with_reducible rfl))
        try simp only [Act.put, List.setIfInBounds_toArray, List.set_cons_zero, List.set_cons_succ]
        refine wpAnyH_take (i := 17) (v := ?vb17) (by simp only [List.getElem?_toArray, List.getElem?_cons_succ, List.getElem?_cons_zero]; exact rfl) (by kernel_rfl) (by kernel_rfl) (by kernel_rfl) (by exact fun _ _ _ h => h) (Or.inl ⟨by kernel_rfl, ?hb17⟩) (by assumption) ?rb17
        case hb17 => (intro w hSw; (try dsimp only at hSw); go_simp; try (with_reducible rfl))
        try simp only [Act.put, List.setIfInBounds_toArray, List.set_cons_zero, List.set_cons_succ]
        refine wpAnyH_done (by kernel_rfl) ?_ _
        go_wp2
        go_roundw
        case rel => exact ⟨k + 1, by omega, by go_num, HB2.out _ (by go_split_ands; assumption), HK⟩
        case measure => simp [intOf]; omega
    · have e : k = bl.length := by omega
      subst e
      have HF := Lib.hid (listB_done hu.out)
      go_wp2
      go_ret
      exact ⟨ret_bool (by rw [HF.out]), hw.out⟩
end Go.Proofs.YtlknncmnphbpkaaGreatDoor.BlsD
