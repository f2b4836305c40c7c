/- The walk of the reference's order of grinding. -/
import Derived.Test.YtlknncmnphbpkaaGreatDoorGriI
import Derived.Test.YtlknncmnphbpkaaGreatDoorGriP
import Derived.Test.YtlknncmnphbpkaaGreatDoorBlsD
import Derived.Test.YtlknncmnphbpkaaGreatDoorBndC
import Derived.Deep.AppendLies
import Derived.Deep.LoopGhost
namespace Go.Proofs.YtlknncmnphbpkaaGreatDoor.GriA
set_option maxRecDepth 100000
open Go.RowKit Go.Proofs.YtlknncmnphbpkaaGreatDoor.Plain Go.Proofs.YtlknncmnphbpkaaGreatDoor.WalkA Go.Proofs.YtlknncmnphbpkaaGreatDoor.WalkB Go.Proofs.YtlknncmnphbpkaaGreatDoor.WalkC Go.Proofs.YtlknncmnphbpkaaGreatDoor.WalkF Go.Proofs.YtlknncmnphbpkaaGreatDoor.WalkH Go.Proofs.YtlknncmnphbpkaaGreatDoor.BndA Go.Proofs.YtlknncmnphbpkaaGreatDoor.BLaw Go.Proofs.YtlknncmnphbpkaaGreatDoor.BndC Go.Proofs.YtlknncmnphbpkaaGreatDoor.BlsA Go.Proofs.YtlknncmnphbpkaaGreatDoor.BlsD Go.Proofs.YtlknncmnphbpkaaGreatDoor.GriI Go.Proofs.YtlknncmnphbpkaaGreatDoor.GriP

theorem info_i64 : (Tryz.prog.info? 2).map (fun i => (i.zero, i.size, i.bytes)) = some (some (.int .i64 0), 1, 8) := by kernel_rfl
theorem add_at (b off j : Nat) : (⟨b, off, none⟩ : Addr).add j = ⟨b, off + j, none⟩ := by
  unfold Addr.add
  split
  · subst j; rfl
  · rfl
theorem one_ints (l : List Int) : ∀ u ∈ l.map (Value.int .i64), u.oneCell' = true := by
  intro u hu
  obtain ⟨x, _, rfl⟩ := List.mem_map.1 hu
  rfl
theorem news_ints {w : World} {b off n : Nat} {l : List Int} (hl : l.length = n) (hc : ∀ j, j < n → w.cell? ⟨b, off + j, none⟩ = some (.int .i64 (iAt l j))) : ∀ j u, (l.map (Value.int .i64))[j]? = some u → w.cell? ((⟨b, off, none⟩ : Addr).add j) = some u := by
  intro j u hu
  rw [List.getElem?_map] at hu
  by_cases hj : j < l.length
  · rw [List.getElem?_eq_getElem hj] at hu
    have := hc j (by omega)
    unfold iAt at this
    rw [List.getD_eq_getElem?_getD, List.getElem?_eq_getElem hj] at this
    rw [← hu, add_at]
    exact this
  · rw [List.getElem?_eq_none (by omega)] at hu
    cases hu
/-- The wear of a bend of a list; the bends to be ground. -/
@[irreducible] def fW (bl : List Bnd) (a m : Int) (k : Nat) : Int := wearI (bAt bl k).r a m
def grTo (f : Nat → Int) (lim : Int) : Nat → List Nat
  | 0 => []
  | k + 1 => if lim < f k then insF f (grTo f lim k) k else grTo f lim k
theorem gr_yes {f : Nat → Int} {lim : Int} {k : Nat} (h : lim < f k) : grTo f lim (k + 1) = insF f (grTo f lim k) k := if_pos h
theorem gr_no {f : Nat → Int} {lim : Int} {k : Nat} (h : ¬ lim < f k) : grTo f lim (k + 1) = grTo f lim k := if_neg h
def toI (l : List Nat) : List Int := l.map fun k : Nat => (k : Int)
def grR (a m lim : Int) : Bool := inB a 0 1000000 && (inB m 0 100000 && inB lim 0 1000000)
def grOk (bl : List Bnd) (a m lim : Int) : Bool := listB bl && grR a m lim
def grC (bl : List Bnd) (a m lim : Int) : Int := if listB bl = true then (if grR a m lim = true then 0 else 2) else 1
def grL (bl : List Bnd) (a m lim : Int) : List Int := if grOk bl a m lim = true then toI (grTo (fW bl a m) lim bl.length) else []
/-- A list of int64 of the call's own, and a code. -/
def NewI (w : World) (l : List Int) (C : Int) (e : Ending) (w' : World) : Prop := ∃ v, e = .returned (.tuple #[v, .int .i64 C]) ∧ OwnI w' w.heap.size v l ∧ Below w.heap.size w w'
theorem gr_bad {bl : List Bnd} {a m lim : Int} (h : listB bl = false) : grL bl a m lim = [] ∧ grC bl a m lim = 1 := by simp [grL, grC, grOk, h]
theorem gr_out {bl : List Bnd} {a m lim : Int} (h : listB bl = true) (k : grR a m lim = false) : grL bl a m lim = [] ∧ grC bl a m lim = 2 := by simp [grL, grC, grOk, h, k]
theorem gr_ok {bl : List Bnd} {a m lim : Int} (h : listB bl = true) (k : grR a m lim = true) : grL bl a m lim = toI (grTo (fW bl a m) lim bl.length) ∧ grC bl a m lim = 0 := by simp [grL, grC, grOk, h, k]
theorem grTo_len (f : Nat → Int) (lim : Int) : ∀ k, (grTo f lim k).length ≤ k
  | 0 => Nat.le_refl _
  | k + 1 => by
    have := grTo_len f lim k
    by_cases h : lim < f k
    · rw [gr_yes h, insF_len]; omega
    · rw [gr_no h]; omega
theorem insB_mem {f : Nat → Int} {x y : Nat} : ∀ {l : List Nat}, y ∈ insB f x l → y = x ∨ y ∈ l
  | [], h => .inl (by simpa [insB] using h)
  | z :: t, h => by
    rw [insB] at h
    split at h
    · rcases List.mem_cons.1 h with h | h
      · exact .inr (by simp [h])
      · rcases insB_mem h with h | h
        · exact .inl h
        · exact .inr (by simp [h])
    · rcases List.mem_cons.1 h with h | h
      · exact .inl h
      · exact .inr h
theorem grTo_mem (f : Nat → Int) (lim : Int) : ∀ k, ∀ x ∈ grTo f lim k, x < k
  | 0, x, h => by simp [grTo] at h
  | k + 1, x, h => by
    have ih := grTo_mem f lim k
    by_cases hl : lim < f k
    · rw [gr_yes hl] at h
      unfold insF at h
      rw [List.mem_reverse] at h
      rcases insB_mem h with h | h
      · omega
      · have := ih x (by simpa using h); omega
    · rw [gr_no hl] at h
      have := ih x h; omega
theorem toI_len (l : List Nat) : (toI l).length = l.length := by unfold toI; rw [List.length_map]
theorem toI_at {l : List Nat} {j : Nat} (hj : j < l.length) : iAt (toI l) j = ((l.getD j default : Nat) : Int) := by
  unfold iAt toI
  rw [List.getD_eq_getElem?_getD, List.getD_eq_getElem?_getD, List.getElem?_map, List.getElem?_eq_getElem hj]
  rfl
theorem getD_mem {l : List Nat} {j : Nat} (hj : j < l.length) : l.getD j default ∈ l := by
  rw [List.getD_eq_getElem?_getD, List.getElem?_eq_getElem hj]
  exact List.getElem_mem hj
theorem atB_yes {f : Nat → Int} {n : Int} {out : List Nat} {k : Nat} (h : f (out.getD k default) < n) : atB f n out (k + 1) = atB f n out k := by
  conv => lhs; unfold atB
  rw [if_pos h]
theorem atB_no {f : Nat → Int} {n : Int} {out : List Nat} {k : Nat} (h : ¬ f (out.getD k default) < n) : atB f n out (k + 1) = k + 1 := by
  unfold atB
  rw [if_neg h]
theorem OwnI.some' {W : World} {B : Nat} {v : Value} {l : List Int} (h : OwnI W B v l) (hv : v ≠ .slice Option.none 0 0) : ∃ g cap, v = .slice (some ⟨g, 0, Option.none⟩) l.length cap ∧ l.length ≤ cap ∧ g < W.heap.size ∧ B ≤ g := by
  have hlt := World.ownsRow.lt h
  rcases h.2 with ⟨h1, _⟩ | ⟨g, cap, cur, rfl, hB, hg, h3, _⟩
  · exact absurd h1 hv
  · exact ⟨g, cap, rfl, h3, (hlt g rfl).2, hB⟩
theorem ins_own {W : World} {B : Nat} {v : Value} {vs : List Value} {f : Nat → Int} {out : List Nat} {k J : Nat} (hJ : atB f (f k) out out.length = J) (hJl : J ≤ out.length)
    (h : W.ownsRow B 2 1 v (J + 1 + (out.length - J)) vs) (hv : vs = ((toI (out.take J)).map (Value.int .i64) ++ [.int .i64 (k : Int)]) ++ (toI (out.drop J)).map (Value.int .i64)) : OwnI W B v (toI (insF f out k)) := by
  subst hv
  have e : insF f out k = out.take J ++ k :: out.drop J := by rw [insF_at, hJ]
  unfold OwnI
  rw [toI_len, insF_len, e, show out.length + 1 = J + 1 + (out.length - J) by omega]
  have e2 : (toI (out.take J ++ k :: out.drop J)).map (Value.int .i64) = ((toI (out.take J)).map (Value.int .i64) ++ [.int .i64 (k : Int)]) ++ (toI (out.drop J)).map (Value.int .i64) := by
    simp [toI]
  rw [e2]
  exact h
end Go.Proofs.YtlknncmnphbpkaaGreatDoor.GriA
/- Plain facts on the order of grinding: which bends stand in it, none twice, the most worn first. -/
namespace Go.Proofs.YtlknncmnphbpkaaGreatDoor.GriQ
open Go.Proofs.YtlknncmnphbpkaaGreatDoor.GriP Go.Proofs.YtlknncmnphbpkaaGreatDoor.GriA

theorem insB_iff {f : Nat → Int} {x y : Nat} : ∀ {l : List Nat}, y ∈ insB f x l ↔ y = x ∨ y ∈ l
  | [] => by simp [insB]
  | z :: t => by
    rw [insB]
    split
    · rw [List.mem_cons, insB_iff, List.mem_cons]
      constructor
      · rintro (h | h | h)
        · exact .inr (.inl h)
        · exact .inl h
        · exact .inr (.inr h)
      · rintro (h | h | h)
        · exact .inr (.inl h)
        · exact .inl h
        · exact .inr (.inr h)
    · rw [List.mem_cons]
theorem grTo_iff (f : Nat → Int) (lim : Int) (i : Nat) : ∀ k, i ∈ grTo f lim k ↔ i < k ∧ lim < f i
  | 0 => by simp [grTo]
  | k + 1 => by
    have ih := grTo_iff f lim i k
    by_cases h : lim < f k
    · rw [gr_yes h]
      unfold insF
      rw [List.mem_reverse, insB_iff, List.mem_reverse, ih]
      constructor
      · rintro (rfl | ⟨h1, h2⟩)
        · exact ⟨by omega, h⟩
        · exact ⟨by omega, h2⟩
      · rintro ⟨h1, h2⟩
        by_cases e : i = k
        · exact .inl e
        · exact .inr ⟨by omega, h2⟩
    · rw [gr_no h, ih]
      constructor
      · rintro ⟨h1, h2⟩
        exact ⟨by omega, h2⟩
      · rintro ⟨h1, h2⟩
        refine ⟨?_, h2⟩
        have : i ≠ k := fun e => h (e ▸ h2)
        omega
theorem nodup_rev {l : List Nat} (h : l.Nodup) : l.reverse.Nodup := List.pairwise_reverse.2 (List.Pairwise.imp (fun e => Ne.symm e) h)
theorem insB_nodup {f : Nat → Int} {x : Nat} : ∀ {l : List Nat}, l.Nodup → x ∉ l → (insB f x l).Nodup
  | [], _, _ => by simp [insB]
  | y :: t, hn, hx => by
    rw [List.nodup_cons] at hn
    rw [List.mem_cons, not_or] at hx
    rw [insB]
    split
    · rw [List.nodup_cons]
      refine ⟨fun h => ?_, insB_nodup hn.2 hx.2⟩
      rcases insB_iff.1 h with h | h
      · exact hx.1 h.symm
      · exact hn.1 h
    · rw [List.nodup_cons, List.nodup_cons, List.mem_cons, not_or]
      exact ⟨hx, hn⟩
theorem grTo_nodup (f : Nat → Int) (lim : Int) : ∀ k, (grTo f lim k).Nodup
  | 0 => by simp [grTo]
  | k + 1 => by
    have ih := grTo_nodup f lim k
    by_cases h : lim < f k
    · rw [gr_yes h]
      unfold insF
      refine nodup_rev (insB_nodup (nodup_rev ih) fun hm => ?_)
      have := grTo_mem f lim k k (List.mem_reverse.1 hm)
      omega
    · rw [gr_no h]
      exact ih
theorem insB_up {f : Nat → Int} {x : Nat} : ∀ {l : List Nat}, l.Pairwise (fun a b => f a ≤ f b) → (insB f x l).Pairwise (fun a b => f a ≤ f b)
  | [], _ => by simp [insB]
  | y :: t, h => by
    rw [List.pairwise_cons] at h
    rw [insB]
    split
    · rename_i hlt
      rw [List.pairwise_cons]
      refine ⟨fun z hz => ?_, insB_up h.2⟩
      rcases insB_iff.1 hz with e | hz
      · rw [e]; omega
      · exact h.1 z hz
    · rename_i hlt
      rw [List.pairwise_cons, List.pairwise_cons]
      refine ⟨fun z hz => ?_, h⟩
      rcases List.mem_cons.1 hz with e | hz
      · rw [e]; omega
      · have := h.1 z hz; omega
theorem grTo_down (f : Nat → Int) (lim : Int) : ∀ k, (grTo f lim k).Pairwise (fun a b => f b ≤ f a)
  | 0 => by simp [grTo]
  | k + 1 => by
    have ih := grTo_down f lim k
    by_cases h : lim < f k
    · rw [gr_yes h]
      unfold insF
      exact List.pairwise_reverse.2 (insB_up (List.pairwise_reverse.2 ih))
    · rw [gr_no h]
      exact ih
/-- The number at a place. -/
def oAt (l : List Nat) (i : Nat) : Nat := l.getD i default
theorem oAt_mem {l : List Nat} {i : Nat} (h : i < l.length) : oAt l i ∈ l := getD_mem h
theorem oAt_is {l : List Nat} {i : Nat} (h : i < l.length) : oAt l i = l[i] := by
  unfold oAt
  rw [List.getD_eq_getElem?_getD, List.getElem?_eq_getElem h]
  rfl
/-- Of two neighbours the second has not the greater wear. -/
theorem grTo_next {f : Nat → Int} {lim : Int} {n i : Nat} (h : i + 1 < (grTo f lim n).length) : f (oAt (grTo f lim n) (i + 1)) ≤ f (oAt (grTo f lim n) i) := by
  have := List.pairwise_iff_getElem.1 (grTo_down f lim n) i (i + 1) (by omega) h (by omega)
  rw [oAt_is h, oAt_is (by omega)]
  exact this
/-- No number stands at two places. -/
theorem grTo_once {f : Nat → Int} {lim : Int} {n i j : Nat} (h : i < (grTo f lim n).length) (hj : j < i) : oAt (grTo f lim n) j ≠ oAt (grTo f lim n) i := by
  have := List.pairwise_iff_getElem.1 (grTo_nodup f lim n) j i (by omega) h hj
  rw [oAt_is h, oAt_is (by omega)]
  exact this
end Go.Proofs.YtlknncmnphbpkaaGreatDoor.GriQ
