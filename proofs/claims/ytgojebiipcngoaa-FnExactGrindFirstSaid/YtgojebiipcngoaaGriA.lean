/- The walk of the reference's order of grinding. -/
import Derived.Test.YtgojebiipcngoaaGriI
import Derived.Test.YtgojebiipcngoaaGriP
import Derived.Test.YtgojebiipcngoaaBlsD
import Derived.Test.YtgojebiipcngoaaBndC
import Derived.Deep.AppendLies
import Derived.Deep.LoopGhost
namespace Go.Proofs.Ytgojebiipcngoaa.GriA
set_option maxRecDepth 100000
open Go.RowKit Go.Proofs.Ytgojebiipcngoaa.Plain Go.Proofs.Ytgojebiipcngoaa.WalkA Go.Proofs.Ytgojebiipcngoaa.WalkB Go.Proofs.Ytgojebiipcngoaa.WalkC Go.Proofs.Ytgojebiipcngoaa.WalkF Go.Proofs.Ytgojebiipcngoaa.WalkH Go.Proofs.Ytgojebiipcngoaa.BndA Go.Proofs.Ytgojebiipcngoaa.BLaw Go.Proofs.Ytgojebiipcngoaa.BndC Go.Proofs.Ytgojebiipcngoaa.BlsA Go.Proofs.Ytgojebiipcngoaa.BlsD Go.Proofs.Ytgojebiipcngoaa.GriI Go.Proofs.Ytgojebiipcngoaa.GriP

theorem info_i64 : (Try.prog.info? 2).map (fun i => (i.zero, i.size, i.bytes)) = some (some (.int .i64 0), 1, 8) := by kernel_rfl
theorem add_at (b off j : Nat) : (⟨b, off, none⟩ : Addr).add j = ⟨b, off + j, none⟩ := by
  unfold Addr.add
  split
  · subst j; rfl
  · rfl
theorem one_ints (l : List Int) : ∀ u ∈ l.map (Value.int .i64), u.oneCell' = true := by
  intro u hu
  obtain ⟨x, _, rfl⟩ := List.mem_map.1 hu
  rfl
theorem news_ints {w : World} {b off n : Nat} {l : List Int} (hl : l.length = n) (hc : ∀ j, j < n → w.cell? ⟨b, off + j, none⟩ = some (.int .i64 (iAt l j))) : ∀ j u, (l.map (Value.int .i64))[j]? = some u → w.cell? ((⟨b, off, none⟩ : Addr).add j) = some u := by
  intro j u hu
  rw [List.getElem?_map] at hu
  by_cases hj : j < l.length
  · rw [List.getElem?_eq_getElem hj] at hu
    have := hc j (by omega)
    unfold iAt at this
    rw [List.getD_eq_getElem?_getD, List.getElem?_eq_getElem hj] at this
    rw [← hu, add_at]
    exact this
  · rw [List.getElem?_eq_none (by omega)] at hu
    cases hu
/-- A list copied into memory of the call's own. -/
theorem own_any (b off n c : Nat) (l : List Int) (w : World) (hl : l.length = n) (hb : b < w.heap.size) (hc : ∀ j, j < n → w.cell? ⟨b, off + j, none⟩ = some (.int .i64 (iAt l j))) (hn : n ≤ 1000) :
    Calls Try.prog 18 #[.slice (some ⟨b, off, none⟩) n c] w fun e w' => ∃ v, e = .returned v ∧ OwnI w' w.heap.size v l ∧ Below w.heap.size w w' := by
  obtain ⟨i0, hi, hz0, hz1, hz2⟩ := info_parts info_i64
  have HF := Lib.hid (OwnI.fresh w)
  have HB := Lib.hid ((Below.refl w.heap.size w).alloc (Nat.le_refl _) (.cells #[] 2))
  have HN := Lib.hid (news_ints hl (fun j hj => (HB.out.cell (p := ⟨b, off + j, none⟩) hb).trans (hc j hj)))
  have HL := Lib.hid hl
  have HZ : Hid ((l.map (Value.int .i64)).length = n * 1) := by show _ = _; rw [List.length_map, hl]; omega
  have m1 : 0 + n ≤ maxLen := by unfold maxLen; omega
  have m2 : (0 + n) * 8 ≤ 140737488355328 := by omega
  clear hc hl
  go_enter Try.func18, Try.ntmps18
  go_wp2_with (at_builtin; refine wpList_append_own_at _ rfl _ _ 24 rfl w.heap.size 2 i0 (.int .i64 0) 1 8 Try.underlying24 hi hz0 hz1 hz2 rfl (by decide) _ 0 [] rfl HF.out ⟨b, off, none⟩ n c (l.map (Value.int .i64)) rfl HZ.out HN.out (one_ints l) m1 m2 (by simp) ?_)
  intro v' w' hown hgrow _ hown2
  have HO : Hid (OwnI w' w.heap.size v' l) := by
    show World.ownsRow _ _ _ _ _ _ _
    rw [HL.out]
    exact hown
  have HB2 : Hid (Below w.heap.size w w') := HB.out.trans ⟨hgrow.os, hgrow.tape, hgrow.output, hgrow.size, fun k hk => hgrow.block k (by simp; omega) (fun e => by simp [Value.ownBlock] at e; omega)⟩
  clear hown hgrow hown2
  go_wp2_with fail
  go_ret
  exact ⟨_, rfl, HO.out, HB2.out⟩
/-- The wear of a bend of a list; the bends to be ground. -/
@[irreducible] def fW (bl : List Bnd) (a m : Int) (k : Nat) : Int := wearI (bAt bl k).r a m
def grTo (f : Nat → Int) (lim : Int) : Nat → List Nat
  | 0 => []
  | k + 1 => if lim < f k then insF f (grTo f lim k) k else grTo f lim k
theorem gr_yes {f : Nat → Int} {lim : Int} {k : Nat} (h : lim < f k) : grTo f lim (k + 1) = insF f (grTo f lim k) k := if_pos h
theorem gr_no {f : Nat → Int} {lim : Int} {k : Nat} (h : ¬ lim < f k) : grTo f lim (k + 1) = grTo f lim k := if_neg h
def toI (l : List Nat) : List Int := l.map fun k : Nat => (k : Int)
def grR (a m lim : Int) : Bool := inB a 0 1000000 && (inB m 0 100000 && inB lim 0 1000000)
def grOk (bl : List Bnd) (a m lim : Int) : Bool := listB bl && grR a m lim
def grC (bl : List Bnd) (a m lim : Int) : Int := if listB bl = true then (if grR a m lim = true then 0 else 2) else 1
def grL (bl : List Bnd) (a m lim : Int) : List Int := if grOk bl a m lim = true then toI (grTo (fW bl a m) lim bl.length) else []
/-- A list of int64 of the call's own, and a code. -/
def NewI (w : World) (l : List Int) (C : Int) (e : Ending) (w' : World) : Prop := ∃ v, e = .returned (.tuple #[v, .int .i64 C]) ∧ OwnI w' w.heap.size v l ∧ Below w.heap.size w w'
theorem gr_bad {bl : List Bnd} {a m lim : Int} (h : listB bl = false) : grL bl a m lim = [] ∧ grC bl a m lim = 1 := by simp [grL, grC, grOk, h]
theorem gr_out {bl : List Bnd} {a m lim : Int} (h : listB bl = true) (k : grR a m lim = false) : grL bl a m lim = [] ∧ grC bl a m lim = 2 := by simp [grL, grC, grOk, h, k]
theorem gr_ok {bl : List Bnd} {a m lim : Int} (h : listB bl = true) (k : grR a m lim = true) : grL bl a m lim = toI (grTo (fW bl a m) lim bl.length) ∧ grC bl a m lim = 0 := by simp [grL, grC, grOk, h, k]
theorem grTo_len (f : Nat → Int) (lim : Int) : ∀ k, (grTo f lim k).length ≤ k
  | 0 => Nat.le_refl _
  | k + 1 => by
    have := grTo_len f lim k
    by_cases h : lim < f k
    · rw [gr_yes h, insF_len]; omega
    · rw [gr_no h]; omega
theorem insB_mem {f : Nat → Int} {x y : Nat} : ∀ {l : List Nat}, y ∈ insB f x l → y = x ∨ y ∈ l
  | [], h => .inl (by simpa [insB] using h)
  | z :: t, h => by
    rw [insB] at h
    split at h
    · rcases List.mem_cons.1 h with h | h
      · exact .inr (by simp [h])
      · rcases insB_mem h with h | h
        · exact .inl h
        · exact .inr (by simp [h])
    · rcases List.mem_cons.1 h with h | h
      · exact .inl h
      · exact .inr h
theorem grTo_mem (f : Nat → Int) (lim : Int) : ∀ k, ∀ x ∈ grTo f lim k, x < k
  | 0, x, h => by simp [grTo] at h
  | k + 1, x, h => by
    have ih := grTo_mem f lim k
    by_cases hl : lim < f k
    · rw [gr_yes hl] at h
      unfold insF at h
      rw [List.mem_reverse] at h
      rcases insB_mem h with h | h
      · omega
      · have := ih x (by simpa using h); omega
    · rw [gr_no hl] at h
      have := ih x h; omega
theorem toI_len (l : List Nat) : (toI l).length = l.length := by unfold toI; rw [List.length_map]
theorem toI_at {l : List Nat} {j : Nat} (hj : j < l.length) : iAt (toI l) j = ((l.getD j default : Nat) : Int) := by
  unfold iAt toI
  rw [List.getD_eq_getElem?_getD, List.getD_eq_getElem?_getD, List.getElem?_map, List.getElem?_eq_getElem hj]
  rfl
theorem getD_mem {l : List Nat} {j : Nat} (hj : j < l.length) : l.getD j default ∈ l := by
  rw [List.getD_eq_getElem?_getD, List.getElem?_eq_getElem hj]
  exact List.getElem_mem hj
theorem atB_yes {f : Nat → Int} {n : Int} {out : List Nat} {k : Nat} (h : f (out.getD k default) < n) : atB f n out (k + 1) = atB f n out k := by
  conv => lhs; unfold atB
  rw [if_pos h]
theorem atB_no {f : Nat → Int} {n : Int} {out : List Nat} {k : Nat} (h : ¬ f (out.getD k default) < n) : atB f n out (k + 1) = k + 1 := by
  unfold atB
  rw [if_neg h]
theorem OwnI.some' {W : World} {B : Nat} {v : Value} {l : List Int} (h : OwnI W B v l) (hv : v ≠ .slice Option.none 0 0) : ∃ g cap, v = .slice (some ⟨g, 0, Option.none⟩) l.length cap ∧ l.length ≤ cap ∧ g < W.heap.size ∧ B ≤ g := by
  have hlt := World.ownsRow.lt h
  rcases h.2 with ⟨h1, _⟩ | ⟨g, cap, cur, rfl, hB, hg, h3, _⟩
  · exact absurd h1 hv
  · exact ⟨g, cap, rfl, h3, (hlt g rfl).2, hB⟩
theorem ins_own {W : World} {B : Nat} {v : Value} {vs : List Value} {f : Nat → Int} {out : List Nat} {k J : Nat} (hJ : atB f (f k) out out.length = J) (hJl : J ≤ out.length)
    (h : W.ownsRow B 2 1 v (J + 1 + (out.length - J)) vs) (hv : vs = ((toI (out.take J)).map (Value.int .i64) ++ [.int .i64 (k : Int)]) ++ (toI (out.drop J)).map (Value.int .i64)) : OwnI W B v (toI (insF f out k)) := by
  subst hv
  have e : insF f out k = out.take J ++ k :: out.drop J := by rw [insF_at, hJ]
  unfold OwnI
  rw [toI_len, insF_len, e, show out.length + 1 = J + 1 + (out.length - J) by omega]
  have e2 : (toI (out.take J ++ k :: out.drop J)).map (Value.int .i64) = ((toI (out.take J)).map (Value.int .i64) ++ [.int .i64 (k : Int)]) ++ (toI (out.drop J)).map (Value.int .i64) := by
    simp [toI]
  rw [e2]
  exact h
set_option maxHeartbeats 4000000 in
theorem specGrind_any (A : Option Addr) (n c : Nat) (bl : List Bnd) (a m lim : Int) (w : World) (hs : Bnds w w.heap.size A n bl) (hn : n ≤ 1048576) :
    Calls Try.prog 5 #[.slice A n c, .int .i64 a, .int .i64 m, .int .i64 lim] w (NewI w (grL bl a m lim) (grC bl a m lim)) := by
  have HO := Lib.hid (specListOk_any A n c bl w.heap.size w hs (by omega))
  have HS := Lib.hid hs
  obtain ⟨rfl, _⟩ := hs
  obtain ⟨i0, hi, hz0, hz1, hz2⟩ := info_parts info_i64
  have HR := Lib.hid (fun x W => rides_any x W)
  have HK := Lib.hid (fun x W => kilos_any x W)
  cases hlb : listB bl
  · obtain ⟨e1, e2⟩ := gr_bad (a := a) (m := m) (lim := lim) hlb
    rw [hlb] at HO
    rw [e1, e2]
    clear e1 e2 hlb HR HK
    go_enter Try.func5, Try.ntmps5
    go_wp2_with fail
    refine HO.out.mono ?_
    rintro e w1 ⟨rfl, q, rfl⟩
    go_wp2_with fail
    go_ret2
    exact ⟨_, rfl, OwnI.none _ _, ⟨rfl, rfl, rfl, Nat.le_refl _, fun _ _ => rfl⟩⟩
  · cases hr : grR a m lim
    · obtain ⟨e1, e2⟩ := gr_out (a := a) (m := m) (lim := lim) hlb hr
      rw [e1, e2]
      rw [hlb] at HO
      have hr2 := hr
      unfold grR at hr2
      have HR1 : Hid (∀ W, Calls Try.prog 15 #[.int .i64 a] W fun e w' => e = .returned (.bool (inB a 0 1000000)) ∧ W = w') := fun W => HR.out a W
      have HK1 : Hid (∀ W, Calls Try.prog 16 #[.int .i64 m] W fun e w' => e = .returned (.bool (inB m 0 100000)) ∧ W = w') := fun W => HK.out m W
      have HR2 : Hid (∀ W, Calls Try.prog 15 #[.int .i64 lim] W fun e w' => e = .returned (.bool (inB lim 0 1000000)) ∧ W = w') := fun W => HR.out lim W
      clear e1 e2 hr hlb HR HK
      generalize inB a 0 1000000 = p1 at *
      generalize inB m 0 100000 = p2 at *
      generalize inB lim 0 1000000 = p3 at *
      cases p1
      · clear hr2
        go_enter Try.func5, Try.ntmps5
        go_wp2_with fail
        refine HO.out.mono ?_
        rintro e w1 ⟨rfl, q, rfl⟩
        go_wp2_with fail
        refine (HR1.out _).mono ?_
        rintro e w1 ⟨rfl, rfl⟩
        go_wp2_with fail
        go_ret2
        exact ⟨_, rfl, OwnI.none _ _, ⟨rfl, rfl, rfl, Nat.le_refl _, fun _ _ => rfl⟩⟩
      cases p2
      · clear hr2
        go_enter Try.func5, Try.ntmps5
        go_wp2_with fail
        refine HO.out.mono ?_
        rintro e w1 ⟨rfl, q, rfl⟩
        go_wp2_with fail
        refine (HR1.out _).mono ?_
        rintro e w1 ⟨rfl, rfl⟩
        go_wp2_with fail
        refine (HK1.out _).mono ?_
        rintro e w1 ⟨rfl, rfl⟩
        go_wp2_with fail
        go_ret2
        exact ⟨_, rfl, OwnI.none _ _, ⟨rfl, rfl, rfl, Nat.le_refl _, fun _ _ => rfl⟩⟩
      cases p3
      · clear hr2
        go_enter Try.func5, Try.ntmps5
        go_wp2_with fail
        refine HO.out.mono ?_
        rintro e w1 ⟨rfl, q, rfl⟩
        go_wp2_with fail
        refine (HR1.out _).mono ?_
        rintro e w1 ⟨rfl, rfl⟩
        go_wp2_with fail
        refine (HK1.out _).mono ?_
        rintro e w1 ⟨rfl, rfl⟩
        go_wp2_with fail
        refine (HR2.out _).mono ?_
        rintro e w1 ⟨rfl, rfl⟩
        go_wp2_with fail
        go_ret2
        exact ⟨_, rfl, OwnI.none _ _, ⟨rfl, rfl, rfl, Nat.le_refl _, fun _ _ => rfl⟩⟩
      · cases hr2
    · have hr2 := hr
      unfold grR at hr2
      rw [Bool.and_eq_true, Bool.and_eq_true] at hr2
      obtain ⟨ra, rm, rl⟩ := hr2
      obtain ⟨e1, e2⟩ := gr_ok (lim := lim) hlb hr
      have hl12 : bl.length ≤ 12 := by
        unfold listB at hlb
        rw [Bool.and_eq_true, decide_eq_true_eq] at hlb
        exact hlb.2
      have HW : Hid (∀ p o k W, k < bl.length → W.cell? ⟨p, o + 1, none⟩ = some (.int .i64 (bAt bl k).r) → Calls Try.prog 17 #[.pointer (some ⟨p, o, none⟩), .int .i64 a, .int .i64 m] W fun e w' => e = .returned (.int .i64 (fW bl a m k)) ∧ W = w') := fun p o k W hk hc => by
        obtain ⟨b1, _, _⟩ := (bendB_iff.1 (listB_at hlb k hk)).2
        have h1 := specWear_any p o (bAt bl k).r a m (by omega) (inB_iff.1 ra) (inB_iff.1 rm) W hc
        unfold fW
        exact h1
      rw [e1, e2]
      have HLB := Lib.hid hlb
      rw [hlb] at HO
      have HR1 : Hid (∀ W, Calls Try.prog 15 #[.int .i64 a] W fun e w' => e = .returned (.bool true) ∧ W = w') := fun W => by have h := HR.out a W; rw [ra] at h; exact h
      have HK1 : Hid (∀ W, Calls Try.prog 16 #[.int .i64 m] W fun e w' => e = .returned (.bool true) ∧ W = w') := fun W => by have h := HK.out m W; rw [rm] at h; exact h
      have HR2 : Hid (∀ W, Calls Try.prog 15 #[.int .i64 lim] W fun e w' => e = .returned (.bool true) ∧ W = w') := fun W => by have h := HR.out lim W; rw [rl] at h; exact h
      clear e1 e2 hr hlb ra rm rl HR HK
      go_enter Try.func5, Try.ntmps5
      go_wp2_with fail
      refine HO.out.mono ?_
      rintro e w1 ⟨rfl, q, rfl⟩
      go_wp2_with fail
      refine (HR1.out _).mono ?_
      rintro e w1 ⟨rfl, rfl⟩
      go_wp2_with fail
      refine (HK1.out _).mono ?_
      rintro e w1 ⟨rfl, rfl⟩
      go_wp2_with fail
      refine (HR2.out _).mono ?_
      rintro e w1 ⟨rfl, rfl⟩
      have HO0 : Hid (OwnI ((w.drewN q).alloc (.cells #[] 2)) w.heap.size (.slice (some ⟨w.heap.size, 0, none⟩) 0 0) []) := OwnI.fresh (w.drewN q)
      have HB0 : Hid (Below w.heap.size w ((w.drewN q).alloc (.cells #[] 2))) := Below.trans (b := w.drewN q) ⟨rfl, rfl, rfl, Nat.le_refl _, fun _ _ => rfl⟩ ((Below.refl w.heap.size (w.drewN q)).alloc (Nat.le_refl w.heap.size) _)
      go_wp2_with fail
      generalize (w.drewN q).alloc (.cells #[] 2) = W0 at *
      go_loopg [10, 11] bl.length (fun g1 v i wr => ∃ (k : Nat) (out : List Nat), k ≤ bl.length ∧ bl.length - k ≤ g1 ∧ i = .int .i64 k ∧ Hid (out = grTo (fW bl a m) lim k) ∧ Hid (v ≠ .slice none 0 0) ∧ Hid (OwnI wr w.heap.size v (toI out)) ∧ Hid (Below w.heap.size w wr))
      case atStart => exact ⟨0, [], Nat.zero_le _, by omega, rfl, rfl, (by show _ ≠ _; simp), HO0, HB0⟩
      case round =>
        clear HO0 HB0
        obtain ⟨k, out, hk, hg, rfl, HOUT, HNN, HOV, HBR⟩ := hrel
        by_cases hlt : k < bl.length
        · obtain ⟨b, off, rfl, hb, hc⟩ := (HS.out.below HBR.out HBR.out.size).2.2 (by omega)
          have HCELL : Hid (∀ x W, x < bl.length → Below w.heap.size w W → W.cell? ⟨b, off + x * 4 + 1, none⟩ = some (.int .i64 (bAt bl x).r)) := fun x W hx hW => by
            obtain ⟨b', off', e, _, hc'⟩ := (HS.out.below hW hW.size).2.2 (by omega)
            injection e with e
            injection e with e1 e2
            subst e1; subst e2
            exact (hc' x hx).2.1
          have q1 := (hc k hlt).2.1
          have HWk := Lib.hid (HW.out b (off + k * 4) k wr hlt q1)
          obtain ⟨NV, hNV⟩ : ∃ NV, NV = fW bl a m k := ⟨_, rfl⟩
          rw [← hNV] at HWk
          have HNV := Lib.hid hNV
          clear hc hNV
          by_cases hle : NV ≤ lim
          · have HNX : Hid (out = grTo (fW bl a m) lim (k + 1)) := by
              show _ = _
              rw [gr_no (by rw [← HNV.out]; omega)]
              exact HOUT.out
            go_wp2_with fail
            refine HWk.out.mono ?_
            rintro e w2 ⟨rfl, rfl⟩
            go_wp2_with fail
            go_roundg (bl.length - (k + 1))
            case measure => omega
            case rel => exact ⟨k + 1, out, by omega, Nat.le_refl _, by go_num, HNX, HNN, HOV, HBR⟩
          · have hlen : out.length ≤ 12 := by
              have := grTo_len (fW bl a m) lim k
              rw [← HOUT.out] at this
              omega
            obtain ⟨go, cv, rfl, hcv, hgo, hgB⟩ := OwnI.some' HOV.out HNN.out
            have HCO : Hid (∀ j, j < out.length → wr.cell? ⟨go, j, none⟩ = some (.int .i64 ((out.getD j default : Nat) : Int))) := fun j hj => by
              obtain ⟨g2, cap2, e, _, _, hc⟩ := HOV.out.form (by rw [toI_len]; omega)
              injection e with e1 e2 e3
              injection e1 with e1
              injection e1 with e1
              subst e1
              have := hc j (by rw [toI_len]; exact hj)
              rw [toI_at hj] at this
              exact this
            rw [toI_len] at hcv HOV
            have HMEM : Hid (∀ j, j < out.length → out.getD j default < k) := fun j hj => by
              have := getD_mem hj
              rw [HOUT.out] at this
              have := grTo_mem _ _ _ _ this
              rw [← HOUT.out] at this
              exact this
            rw [toI_len]
            go_wp2_with fail
            refine HWk.out.mono ?_
            rintro e w2 ⟨rfl, rfl⟩
            go_wp2_with fail
            go_loopg [13] out.length (fun g2 a2 wr2 => ∃ j : Nat, a2 = .int .i64 j ∧ j ≤ out.length ∧ j ≤ g2 ∧ wr2 = wr ∧ Hid (atB (fW bl a m) NV out out.length = atB (fW bl a m) NV out j))
            case atStart => exact ⟨out.length, rfl, Nat.le_refl _, Nat.le_refl _, rfl, rfl⟩
            case round =>
              obtain ⟨j, rfl, hj, hg2, rfl, HAT⟩ := hrel
              by_cases hj0 : 0 < j
              · obtain ⟨jp, rfl⟩ : ∃ jp, j = jp + 1 := ⟨j - 1, by omega⟩
                have hx := HMEM.out jp (by omega)
                have q2 := HCO.out jp (by omega)
                obtain ⟨X, hX⟩ : ∃ X, X = out.getD jp default := ⟨_, rfl⟩
                rw [← hX] at hx q2
                have hxl : X < bl.length := by omega
                have q3 := HCELL.out X wr hxl HBR.out
                have HWX := Lib.hid (HW.out b (off + X * 4) X wr hxl q3)
                have HXX := Lib.hid hX
                obtain ⟨XV, hXV⟩ : ∃ XV, XV = fW bl a m X := ⟨_, rfl⟩
                rw [← hXV] at HWX
                have HXV := Lib.hid hXV
                clear hX hXV
                have hxi : (X : Int) < (bl.length : Int) := by omega
                have hji : (0 : Int) < (jp : Int) + 1 := by omega
                by_cases hlv : XV < NV
                · have HAN : Hid (atB (fW bl a m) NV out out.length = atB (fW bl a m) NV out jp) := by
                    show _ = _
                    rw [HAT.out, atB_yes (by rw [← HXX.out, ← HXV.out]; exact hlv)]
                  go_wp2_with fail
                  refine HWX.out.mono ?_
                  rintro e w3 ⟨rfl, rfl⟩
                  go_wp2_with fail
                  go_roundg jp
                  case measure => omega
                  case rel => exact ⟨jp, by go_num, by omega, Nat.le_refl _, rfl, HAN⟩
                · have HAN : Hid (atB (fW bl a m) NV out out.length = jp + 1) := by
                    show _ = _
                    rw [HAT.out, atB_no (by rw [← HXX.out, ← HXV.out]; exact hlv)]
                  go_wp2_with fail
                  refine HWX.out.mono ?_
                  rintro e w3 ⟨rfl, rfl⟩
                  obtain ⟨J, hJ⟩ : ∃ J : Nat, J = jp + 1 := ⟨_, rfl⟩
                  have hJ2 : (jp : Int) + 1 = (J : Int) := by omega
                  rw [← hJ] at HAN
                  have hJl : J ≤ out.length := by omega
                  clear hJ
                  have hJc : (J : Int) ≤ (cv : Int) := by omega
                  have hJc2 : J ≤ cv := by omega
                  have hJ0 : (0 : Int) ≤ (J : Int) := by omega
                  have hJo : (J : Int) ≤ (out.length : Int) := by omega
                  have HOWN := Lib.hid (own_any go 0 J cv (toI (out.take J)) wr (by rw [toI_len, List.length_take]; omega) hgo (fun j hj => by
                    have h1 := HCO.out j (by omega)
                    have h2 := toI_at (l := out.take J) (j := j) (by rw [List.length_take]; omega)
                    rw [h2, List.getD_eq_getElem?_getD, List.getElem?_take_of_lt hj, ← List.getD_eq_getElem?_getD, Nat.zero_add]
                    exact h1) (by omega))
                  go_wp2_with fail
                  refine HOWN.out.mono ?_
                  rintro e w4 ⟨v4, rfl, ho4, hb4⟩
                  obtain ⟨A4, c4, rfl⟩ := OwnI.shape' (show (toI (out.take J)).length = J by rw [toI_len, List.length_take]; omega) ho4
                  have HOW4 : Hid (w4.ownsRow wr.heap.size 2 1 (.slice A4 J c4) J ((toI (out.take J)).map (Value.int .i64))) := by
                    have h1 := ho4
                    unfold OwnI at h1
                    rw [show (toI (out.take J)).length = J by rw [toI_len, List.length_take]; omega] at h1
                    exact h1
                  have HB4 := Lib.hid hb4
                  have HNEW := Lib.hid (World.news_of_block (heap_alloc_new w4 (.cells #[.int .i64 (k : Int)] 2)))
                  have hwr4 := hb4.size
                  have m1 : J + 1 ≤ maxLen := by unfold maxLen; omega
                  have m2 : (J + 1) * 8 ≤ 140737488355328 := by omega
                  clear ho4 hb4
                  go_wp2_with (at_builtin; refine wpList_append_lies _ rfl _ _ 24 rfl wr.heap.size 2 i0 (.int .i64 0) 1 8 Try.underlying24 hi hz0 hz1 hz2 rfl (by decide) _ J ((toI (out.take J)).map (Value.int .i64)) rfl (World.ownsRow.alloc HOW4.out _) ⟨w4.heap.size, 0, none⟩ 1 1 [.int .i64 (k : Int)] rfl rfl HNEW.out (one_ints [(k : Int)]) (by decide) m1 m2 (by simp; omega) _ rfl ?_)
                  intro gc capc w5 hown hgrow hat hltc
                  have HB5 : Hid (Below wr.heap.size wr w5) := by
                    have hg2 : Below wr.heap.size (w4.alloc (.cells #[.int .i64 (k : Int)] 2)) w5 := ⟨hgrow.os, hgrow.tape, hgrow.output, hgrow.size, fun q hq => hgrow.block q (by simp; omega) (fun e => by have := (World.ownsRow.lt HOW4.out q e.symm).1; omega)⟩
                    exact HB4.out.trans (((Below.refl wr.heap.size w4).alloc hwr4 _).trans hg2)
                  have HOW5 := Lib.hid hown
                  have HN5 := Lib.hid (news_ints (w := w5) (b := go) (off := J) (n := out.length - J) (l := toI (out.drop J)) (by rw [toI_len, List.length_drop]) (fun q hq => by
                    have h1 := (HB5.out.cell (p := ⟨go, J + q, none⟩) hgo).trans (HCO.out (J + q) (by omega))
                    have h2 := toI_at (l := out.drop J) (j := q) (by rw [List.length_drop]; omega)
                    rw [h2, List.getD_eq_getElem?_getD, List.getElem?_drop, ← List.getD_eq_getElem?_getD]
                    exact h1))
                  have HZL : Hid (((toI (out.drop J)).map (Value.int .i64)).length = (out.length - J) * 1) := by show _ = _; rw [List.length_map, toI_len, List.length_drop]; omega
                  have m3 : (J + 1) + (out.length - J) ≤ maxLen := by unfold maxLen; omega
                  have m4 : ((J + 1) + (out.length - J)) * 8 ≤ 140737488355328 := by omega
                  have hw5 := HB5.out.size
                  clear hown hgrow hat
                  by_cases hcj : cv = J
                  · have hcj2 : (cv : Int) = (J : Int) := by omega
                    have HN5z := Lib.hid (news_ints (w := w5) (b := go) (off := 0) (n := out.length - J) (l := toI (out.drop J)) (by rw [toI_len, List.length_drop]) (fun q hq => by omega))
                    go_wp2_with (at_builtin; refine wpList_append_own_at _ rfl _ _ 24 rfl wr.heap.size 2 i0 (.int .i64 0) 1 8 Try.underlying24 hi hz0 hz1 hz2 rfl (by decide) _ (J + 1) _ rfl HOW5.out ⟨go, 0, none⟩ (out.length - J) 0 ((toI (out.drop J)).map (Value.int .i64)) rfl HZL.out HN5z.out (one_ints _) m3 m4 hw5 ?_)
                    intro v6 w6 hown6 hgrow6 hnil6 hat6
                    have HOV6 : Hid (OwnI w6 w.heap.size v6 (toI (insF (fW bl a m) out k))) := by
                      have h1 : OwnI w6 wr.heap.size v6 (toI (insF (fW bl a m) out k)) := ins_own (by rw [← HNV.out]; exact HAN.out) hJl hown6 (by simp [toI])
                      exact h1.mono HBR.out.size
                    have HNN6 : Hid (v6 ≠ .slice none 0 0) := hnil6
                    have HBR6 : Hid (Below w.heap.size w w6) := (HBR.out.trans (HB5.out.mono HBR.out.size)).grown hgrow6 (Nat.le_trans HBR.out.size hw5) (fun q hq => by have := (World.ownsRow.lt HOW5.out q hq).1; have := HBR.out.size; omega)
                    have HNX : Hid (insF (fW bl a m) out k = grTo (fW bl a m) lim (k + 1)) := by
                      show _ = _
                      rw [gr_yes (by rw [← HNV.out]; omega), HOUT.out]
                    clear hown6 hgrow6 hnil6 hat6
                    go_wp2_with fail
                    go_roundg (bl.length - (k + 1))
                    case measure => omega
                    case rel => exact ⟨k + 1, insF (fW bl a m) out k, by omega, Nat.le_refl _, by go_num, HNX, HNN6, HOV6, HBR6⟩
                  · have hcj2 : ¬ (cv : Int) = (J : Int) := by omega
                    go_wp2_with (at_builtin; refine wpList_append_own_at _ rfl _ _ 24 rfl wr.heap.size 2 i0 (.int .i64 0) 1 8 Try.underlying24 hi hz0 hz1 hz2 rfl (by decide) _ (J + 1) _ rfl HOW5.out ⟨go, J, none⟩ (out.length - J) (cv - J) ((toI (out.drop J)).map (Value.int .i64)) rfl HZL.out HN5.out (one_ints _) m3 m4 hw5 ?_)
                    intro v6 w6 hown6 hgrow6 hnil6 hat6
                    have HOV6 : Hid (OwnI w6 w.heap.size v6 (toI (insF (fW bl a m) out k))) := by
                      have h1 : OwnI w6 wr.heap.size v6 (toI (insF (fW bl a m) out k)) := ins_own (by rw [← HNV.out]; exact HAN.out) hJl hown6 (by simp [toI])
                      exact h1.mono HBR.out.size
                    have HNN6 : Hid (v6 ≠ .slice none 0 0) := hnil6
                    have HBR6 : Hid (Below w.heap.size w w6) := (HBR.out.trans (HB5.out.mono HBR.out.size)).grown hgrow6 (Nat.le_trans HBR.out.size hw5) (fun q hq => by have := (World.ownsRow.lt HOW5.out q hq).1; have := HBR.out.size; omega)
                    have HNX : Hid (insF (fW bl a m) out k = grTo (fW bl a m) lim (k + 1)) := by
                      show _ = _
                      rw [gr_yes (by rw [← HNV.out]; omega), HOUT.out]
                    clear hown6 hgrow6 hnil6 hat6
                    go_wp2_with fail
                    go_roundg (bl.length - (k + 1))
                    case measure => omega
                    case rel => exact ⟨k + 1, insF (fW bl a m) out k, by omega, Nat.le_refl _, by go_num, HNX, HNN6, HOV6, HBR6⟩
              · have hjz : ¬ (0 : Int) < (j : Int) := by omega
                have HAN : Hid (atB (fW bl a m) NV out out.length = j) := by
                  show _ = _
                  have hz : j = 0 := by omega
                  rw [HAT.out, hz]
                  rfl
                have hJl : j ≤ out.length := hj
                have hJc : (j : Int) ≤ (cv : Int) := by omega
                have hJc2 : j ≤ cv := by omega
                have hJ0 : (0 : Int) ≤ (j : Int) := by omega
                have hJo : (j : Int) ≤ (out.length : Int) := by omega
                have HOWN := Lib.hid (own_any go 0 j cv (toI (out.take j)) wr (by rw [toI_len, List.length_take]; omega) hgo (fun q hq => by
                  have h1 := HCO.out q (by omega)
                  have h2 := toI_at (l := out.take j) (j := q) (by rw [List.length_take]; omega)
                  rw [h2, List.getD_eq_getElem?_getD, List.getElem?_take_of_lt hq, ← List.getD_eq_getElem?_getD, Nat.zero_add]
                  exact h1) (by omega))
                go_wp2_with fail
                refine HOWN.out.mono ?_
                rintro e w4 ⟨v4, rfl, ho4, hb4⟩
                obtain ⟨A4, c4, rfl⟩ := OwnI.shape' (show (toI (out.take j)).length = j by rw [toI_len, List.length_take]; omega) ho4
                have HOW4 : Hid (w4.ownsRow wr.heap.size 2 1 (.slice A4 j c4) j ((toI (out.take j)).map (Value.int .i64))) := by
                  have h1 := ho4
                  unfold OwnI at h1
                  rw [show (toI (out.take j)).length = j by rw [toI_len, List.length_take]; omega] at h1
                  exact h1
                have HB4 := Lib.hid hb4
                have HNEW := Lib.hid (World.news_of_block (heap_alloc_new w4 (.cells #[.int .i64 (k : Int)] 2)))
                have hwr4 := hb4.size
                have m1 : j + 1 ≤ maxLen := by unfold maxLen; omega
                have m2 : (j + 1) * 8 ≤ 140737488355328 := by omega
                clear ho4 hb4
                go_wp2_with (at_builtin; refine wpList_append_lies _ rfl _ _ 24 rfl wr.heap.size 2 i0 (.int .i64 0) 1 8 Try.underlying24 hi hz0 hz1 hz2 rfl (by decide) _ j ((toI (out.take j)).map (Value.int .i64)) rfl (World.ownsRow.alloc HOW4.out _) ⟨w4.heap.size, 0, none⟩ 1 1 [.int .i64 (k : Int)] rfl rfl HNEW.out (one_ints [(k : Int)]) (by decide) m1 m2 (by simp; omega) _ rfl ?_)
                intro gc capc w5 hown hgrow hat hltc
                have HB5 : Hid (Below wr.heap.size wr w5) := by
                  have hg2 : Below wr.heap.size (w4.alloc (.cells #[.int .i64 (k : Int)] 2)) w5 := ⟨hgrow.os, hgrow.tape, hgrow.output, hgrow.size, fun q hq => hgrow.block q (by simp; omega) (fun e => by have := (World.ownsRow.lt HOW4.out q e.symm).1; omega)⟩
                  exact HB4.out.trans (((Below.refl wr.heap.size w4).alloc hwr4 _).trans hg2)
                have HOW5 := Lib.hid hown
                have HN5 := Lib.hid (news_ints (w := w5) (b := go) (off := j) (n := out.length - j) (l := toI (out.drop j)) (by rw [toI_len, List.length_drop]) (fun q hq => by
                  have h1 := (HB5.out.cell (p := ⟨go, j + q, none⟩) hgo).trans (HCO.out (j + q) (by omega))
                  have h2 := toI_at (l := out.drop j) (j := q) (by rw [List.length_drop]; omega)
                  rw [h2, List.getD_eq_getElem?_getD, List.getElem?_drop, ← List.getD_eq_getElem?_getD]
                  exact h1))
                have HZL : Hid (((toI (out.drop j)).map (Value.int .i64)).length = (out.length - j) * 1) := by show _ = _; rw [List.length_map, toI_len, List.length_drop]; omega
                have m3 : (j + 1) + (out.length - j) ≤ maxLen := by unfold maxLen; omega
                have m4 : ((j + 1) + (out.length - j)) * 8 ≤ 140737488355328 := by omega
                have hw5 := HB5.out.size
                clear hown hgrow hat
                by_cases hcj : cv = j
                · have hcj2 : (cv : Int) = (j : Int) := by omega
                  have HN5z := Lib.hid (news_ints (w := w5) (b := go) (off := 0) (n := out.length - j) (l := toI (out.drop j)) (by rw [toI_len, List.length_drop]) (fun q hq => by omega))
                  go_wp2_with (at_builtin; refine wpList_append_own_at _ rfl _ _ 24 rfl wr.heap.size 2 i0 (.int .i64 0) 1 8 Try.underlying24 hi hz0 hz1 hz2 rfl (by decide) _ (j + 1) _ rfl HOW5.out ⟨go, 0, none⟩ (out.length - j) 0 ((toI (out.drop j)).map (Value.int .i64)) rfl HZL.out HN5z.out (one_ints _) m3 m4 hw5 ?_)
                  intro v6 w6 hown6 hgrow6 hnil6 hat6
                  have HOV6 : Hid (OwnI w6 w.heap.size v6 (toI (insF (fW bl a m) out k))) := by
                    have h1 : OwnI w6 wr.heap.size v6 (toI (insF (fW bl a m) out k)) := ins_own (by rw [← HNV.out]; exact HAN.out) hJl hown6 (by simp [toI])
                    exact h1.mono HBR.out.size
                  have HNN6 : Hid (v6 ≠ .slice none 0 0) := hnil6
                  have HBR6 : Hid (Below w.heap.size w w6) := (HBR.out.trans (HB5.out.mono HBR.out.size)).grown hgrow6 (Nat.le_trans HBR.out.size hw5) (fun q hq => by have := (World.ownsRow.lt HOW5.out q hq).1; have := HBR.out.size; omega)
                  have HNX : Hid (insF (fW bl a m) out k = grTo (fW bl a m) lim (k + 1)) := by
                    show _ = _
                    rw [gr_yes (by rw [← HNV.out]; omega), HOUT.out]
                  clear hown6 hgrow6 hnil6 hat6
                  go_wp2_with fail
                  go_roundg (bl.length - (k + 1))
                  case measure => omega
                  case rel => exact ⟨k + 1, insF (fW bl a m) out k, by omega, Nat.le_refl _, by go_num, HNX, HNN6, HOV6, HBR6⟩
                · have hcj2 : ¬ (cv : Int) = (j : Int) := by omega
                  go_wp2_with (at_builtin; refine wpList_append_own_at _ rfl _ _ 24 rfl wr.heap.size 2 i0 (.int .i64 0) 1 8 Try.underlying24 hi hz0 hz1 hz2 rfl (by decide) _ (j + 1) _ rfl HOW5.out ⟨go, j, none⟩ (out.length - j) (cv - j) ((toI (out.drop j)).map (Value.int .i64)) rfl HZL.out HN5.out (one_ints _) m3 m4 hw5 ?_)
                  intro v6 w6 hown6 hgrow6 hnil6 hat6
                  have HOV6 : Hid (OwnI w6 w.heap.size v6 (toI (insF (fW bl a m) out k))) := by
                    have h1 : OwnI w6 wr.heap.size v6 (toI (insF (fW bl a m) out k)) := ins_own (by rw [← HNV.out]; exact HAN.out) hJl hown6 (by simp [toI])
                    exact h1.mono HBR.out.size
                  have HNN6 : Hid (v6 ≠ .slice none 0 0) := hnil6
                  have HBR6 : Hid (Below w.heap.size w w6) := (HBR.out.trans (HB5.out.mono HBR.out.size)).grown hgrow6 (Nat.le_trans HBR.out.size hw5) (fun q hq => by have := (World.ownsRow.lt HOW5.out q hq).1; have := HBR.out.size; omega)
                  have HNX : Hid (insF (fW bl a m) out k = grTo (fW bl a m) lim (k + 1)) := by
                    show _ = _
                    rw [gr_yes (by rw [← HNV.out]; omega), HOUT.out]
                  clear hown6 hgrow6 hnil6 hat6
                  go_wp2_with fail
                  go_roundg (bl.length - (k + 1))
                  case measure => omega
                  case rel => exact ⟨k + 1, insF (fW bl a m) out k, by omega, Nat.le_refl _, by go_num, HNX, HNN6, HOV6, HBR6⟩
        · have e : k = bl.length := by omega
          subst e
          go_wp2_with fail
          go_ret2
          exact ⟨_, rfl, by rw [← HOUT.out]; exact HOV.out, HBR.out⟩
end Go.Proofs.Ytgojebiipcngoaa.GriA
