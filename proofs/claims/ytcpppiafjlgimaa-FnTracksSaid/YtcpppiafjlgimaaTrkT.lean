/- Sections of the same grade made one: the program's walk and the reference's. -/
import Derived.Test.YtcpppiafjlgimaaTrkS
import Derived.Outline
import Derived.RegionTactic
import Derived.ChangeAlike
import Derived.BigQuiet
import Derived.Deep.QuietTactic
namespace Go.Proofs.Ytcpppiafjlgimaa.TrkT
open Go.RowKit Go.Proofs.Ytcpppiafjlgimaa.Plain Go.Proofs.Ytcpppiafjlgimaa.TrkP Go.Proofs.Ytcpppiafjlgimaa.WalkA Go.Proofs.Ytcpppiafjlgimaa.TrkA Go.Proofs.Ytcpppiafjlgimaa.TrkB Go.Proofs.Ytcpppiafjlgimaa.TrkC Go.Proofs.Ytcpppiafjlgimaa.TrkD Go.Proofs.Ytcpppiafjlgimaa.TrkE Go.Proofs.Ytcpppiafjlgimaa.TrkR Go.Proofs.Ytcpppiafjlgimaa.TrkS

theorem secL_set (l : List (Int × Int)) (i j : Nat) (p : Int × Int) (hi : i < l.length) : secL (l.set i p) j = if j = i then p.1 else secL l j := by
  unfold secL
  rw [List.getD_eq_getElem?_getD, List.getD_eq_getElem?_getD, List.getElem?_set]
  by_cases h : j = i
  · subst h; simp [hi]
  · rw [if_neg (fun e => h e.symm), if_neg h]
theorem secL_append (l : List (Int × Int)) (p : Int × Int) (j : Nat) : secL (l ++ [p]) j = if j < l.length then secL l j else if j = l.length then p.1 else 0 := by
  unfold secL
  rw [List.getD_eq_getElem?_getD, List.getD_eq_getElem?_getD, List.getElem?_append]
  by_cases h : j < l.length
  · rw [if_pos h, if_pos h]
  · rw [if_neg h, if_neg h]
    by_cases e : j = l.length
    · subst e; simp
    · rw [if_neg e, List.getElem?_eq_none (by simp; omega)]; rfl
theorem flat_set : ∀ (l : List (Int × Int)) (i : Nat) (a : Int), i < l.length → flat (l.set i (a, secG l i)) = (flat l).set (i * 2) (.int .i64 a)
  | [], i, a, h => by simp at h
  | p :: l, 0, a, _ => rfl
  | p :: l, i + 1, a, h => by
    have ih := flat_set l i a (by simpa using h)
    have e : (i + 1) * 2 = i * 2 + 1 + 1 := by omega
    have f : secG (p :: l) (i + 1) = secG l i := rfl
    rw [f, e]
    show Value.int .i64 p.1 :: .int .i64 p.2 :: flat (l.set i (a, secG l i)) = _
    rw [ih]
    rfl
def joinAdd (acc : List (Int × Int)) (s : Int × Int) : List (Int × Int) :=
  if 0 < acc.length ∧ secG acc (acc.length - 1) = s.2 then acc.set (acc.length - 1) (secL acc (acc.length - 1) + s.1, secG acc (acc.length - 1)) else acc ++ [s]
def joinTo (l : List (Int × Int)) : Nat → List (Int × Int)
  | 0 => []
  | k + 1 => joinAdd (joinTo l k) (secL l k, secG l k)
theorem joinTo_len (l : List (Int × Int)) (k : Nat) : (joinTo l k).length ≤ k := by
  induction k with
  | zero => exact Nat.le_refl _
  | succ k ih =>
    show (joinAdd (joinTo l k) (secL l k, secG l k)).length ≤ k + 1
    unfold joinAdd
    split
    · simp; omega
    · simp; omega
theorem joinTo_bd {l : List (Int × Int)} (h : GoodL l) (k : Nat) (hk : k ≤ l.length) : ∀ i, i < (joinTo l k).length → 0 ≤ secL (joinTo l k) i ∧ secL (joinTo l k) i ≤ lenTo l k := by
  induction k with
  | zero => intro i hi; exact absurd hi (by simp [joinTo])
  | succ k ih =>
    have e : lenTo l (k + 1) = lenTo l k + secL l k := rfl
    have g := (h.2 k (by omega)).1
    have b := (lenTo_bds h k (by omega)).1
    intro i hi
    have hj : joinTo l (k + 1) = joinAdd (joinTo l k) (secL l k, secG l k) := rfl
    rw [hj] at hi ⊢
    unfold joinAdd at hi ⊢
    by_cases hc : 0 < (joinTo l k).length ∧ secG (joinTo l k) ((joinTo l k).length - 1) = secG l k
    · rw [if_pos hc] at hi ⊢
      rw [secL_set _ _ _ _ (by omega)]
      have q := ih (by omega) ((joinTo l k).length - 1) (by omega)
      split
      · simp only; omega
      · have q2 := ih (by omega) i (by simpa using hi); omega
    · rw [if_neg hc] at hi ⊢
      rw [secL_append]
      split
      · rename_i hlt; have q2 := ih (by omega) i hlt; omega
      · split
        · simp only; omega
        · omega
/-- A struct of the call's own that holds a track whose sections it has made itself: in block p, the sections behind it. -/
def Out (W : World) (p : Nat) (v : Value) (lf lu : Int) (acc : List (Int × Int)) : Prop :=
  RowAt W p 26 #[v, .int .i64 lf, .int .i64 lu] ∧ W.ownsRow (p + 1) 37 2 v acc.length (flat acc) ∧ (acc.length = 0 → v = .slice none 0 0)
theorem Out.form {W : World} {p : Nat} {v : Value} {lf lu : Int} {acc : List (Int × Int)} (h : Out W p v lf lu acc) (h0 : 0 < acc.length) : ∃ g cap, v = .slice (some ⟨g, 0, none⟩) acc.length cap ∧ p + 1 ≤ g ∧ g < W.heap.size := h.2.1.form h0
theorem grown_up {w w' : World} {r : Option Nat} {B : Nat} (h : w.grownBy w' r) (hr : ∀ k, r = some k → B ≤ k) (hB : B ≤ w.heap.size) : Below B w w' :=
  ⟨h.os, h.tape, h.output, h.size, fun k hk => h.block k (by omega) (fun e => by have := hr k e.symm; omega)⟩
theorem Out.lt {W : World} {p : Nat} {v : Value} {lf lu : Int} {acc : List (Int × Int)} (h : Out W p v lf lu acc) : p < W.heap.size := h.1.lt
/-- Sections appended: the world behind the append, and behind the store of the new slice. -/
theorem Out.append {W W2 w1 : World} {p : Nat} {v v' : Value} {lf lu : Int} {acc more : List (Int × Int)} (h : Out W p v lf lu acc) (hm : 0 < more.length) (hW : Below (p + 1) W W2) (hsz : p + 1 ≤ W2.heap.size) (hv : ∀ k, v.ownBlock = some k → p + 1 ≤ k) (hg : W2.grownBy w1 v.ownBlock) (hown : w1.ownsRow (p + 1) 37 2 v' (acc.length + more.length) (flat acc ++ flat more)) :
    (RowAt w1 p 26 #[v, .int .i64 lf, .int .i64 lu] ∧ Below (p + 1) W w1) ∧ Out (w1.setCell ⟨p, 0, none⟩ v') p v' lf lu (acc ++ more) ∧ Below p W (w1.setCell ⟨p, 0, none⟩ v') := by
  have b1 := grown_up hg hv hsz
  have b2 := hW.trans b1
  have r1 := h.1.below b2 (Nat.lt_succ_self p)
  refine ⟨⟨r1, b2⟩, ⟨?_, ?_, fun h0 => by rw [List.length_append] at h0; omega⟩, (b2.mono (Nat.le_succ p)).setCell (show p ≤ (⟨p, 0, none⟩ : Addr).block from Nat.le_refl p) v'⟩
  · exact r1.store 0 v'
  · rw [flat_append, List.length_append]
    exact ownsRow_setCell_below hown (a := ⟨p, 0, none⟩) (Nat.lt_succ_self p) _

def joinL (l : List (Int × Int)) (lf lu : Int) : List (Int × Int) := if trackB l lf lu = true then joinTo l l.length else []
theorem joinL_no {l : List (Int × Int)} {lf lu : Int} (h : trackB l lf lu = false) : joinL l lf lu = [] := by simp [joinL, h]
theorem joinL_yes {l : List (Int × Int)} {lf lu : Int} (h : trackB l lf lu = true) : joinL l lf lu = joinTo l l.length := by simp [joinL, h]
theorem join_same {l : List (Int × Int)} {k : Nat} (h0 : 0 < (joinTo l k).length) (h : secG (joinTo l k) ((joinTo l k).length - 1) = secG l k) :
    joinTo l (k + 1) = (joinTo l k).set ((joinTo l k).length - 1) (secL (joinTo l k) ((joinTo l k).length - 1) + secL l k, secG (joinTo l k) ((joinTo l k).length - 1)) := if_pos ⟨h0, h⟩
theorem join_more {l : List (Int × Int)} {k : Nat} (h : ¬ (0 < (joinTo l k).length ∧ secG (joinTo l k) ((joinTo l k).length - 1) = secG l k)) : joinTo l (k + 1) = joinTo l k ++ [(secL l k, secG l k)] := if_neg h
theorem Out.alloc {W : World} {p : Nat} {v : Value} {lf lu : Int} {acc : List (Int × Int)} (h : Out W p v lf lu acc) (o : Obj) : Out (W.alloc o) p v lf lu acc :=
  ⟨h.1.below ((Below.refl _ _).alloc (Nat.le_refl _) o) h.1.lt, h.2.1.alloc o, h.2.2⟩
theorem Out.own {W : World} {p : Nat} {v : Value} {lf lu : Int} {acc : List (Int × Int)} (h : Out W p v lf lu acc) : ∀ k, v.ownBlock = some k → p + 1 ≤ k := fun k hk => (h.2.1.lt k hk).1
theorem Out.below {W W' : World} {p : Nat} {v : Value} {lf lu : Int} {acc : List (Int × Int)} (h : Out W p v lf lu acc) (hb : Below W.heap.size W W') : Out W' p v lf lu acc :=
  ⟨h.1.below hb h.1.lt, h.2.1.kept (grown_below hb none) (by cases v.ownBlock <;> simp), h.2.2⟩
theorem Out.merge {W W' : World} {p g cap : Nat} {lf lu a sg : Int} {acc : List (Int × Int)} (h : Out W p (.slice (some ⟨g, 0, none⟩) acc.length cap) lf lu acc) (hb : Below W.heap.size W W') (h0 : 0 < acc.length) (hg : p + 1 ≤ g) (hs : secG acc (acc.length - 1) = sg) :
    Out (W'.setCell ⟨g, (acc.length - 1) * 2, none⟩ (.int .i64 a)) p (.slice (some ⟨g, 0, none⟩) acc.length cap) lf lu (acc.set (acc.length - 1) (a, sg)) ∧ Below p W (W'.setCell ⟨g, (acc.length - 1) * 2, none⟩ (.int .i64 a)) := by
  subst hs
  have h' := h.below hb
  have hlt := h.lt
  refine ⟨⟨h'.1.far (show g ≠ p by omega) _, ?_, fun e => by rw [List.length_set] at e; omega⟩, (hb.mono (by omega)).setCell (show p ≤ g by omega) _⟩
  rw [flat_set _ _ _ (by omega), List.length_set]
  exact (h'.2.1.stored _ _).1
theorem OwnT.set {W : World} {B : Nat} {A : Option Addr} {n : Nat} {l : List (Int × Int)} (h : OwnT W B A n l) {q : Addr} (hq : q.block < B) (u : Value) : OwnT (W.setCell q u) B A n l :=
  ⟨h.1, fun hn => by
    obtain ⟨g, cs, e, hB, hr, hs, hc⟩ := h.2 hn
    exact ⟨g, cs, e, hB, hr.far (by omega) u, hs, hc⟩⟩
theorem OwnT.mono {W : World} {B B' : Nat} {A : Option Addr} {n : Nat} {l : List (Int × Int)} (h : OwnT W B A n l) (hB : B' ≤ B) : OwnT W B' A n l :=
  ⟨h.1, fun hn => by
    obtain ⟨g, cs, e, hg, hr, hs, hc⟩ := h.2 hn
    exact ⟨g, cs, e, by omega, hr, hs, hc⟩⟩
theorem below_drew_alloc (W : World) (m : Nat) (o : Obj) : Below W.heap.size W ((W.drewN m).alloc o) :=
  Below.trans (b := W.drewN m) ⟨rfl, rfl, rfl, Nat.le_refl _, fun _ _ => rfl⟩ (Below.alloc (Below.refl W.heap.size (W.drewN m)) (show W.heap.size ≤ (W.drewN m).heap.size from Nat.le_refl _) o)
theorem rows_pair (w : World) (x y : Value) (t : TypeId) : (w.alloc (.cells #[x, y] t)).cell? ⟨w.heap.size, 0, none⟩ = some x ∧ (w.alloc (.cells #[x, y] t)).cell? ⟨w.heap.size, 1, none⟩ = some y :=
  ⟨(RowAt.new w t #[x, y]).cell 0, (RowAt.new w t #[x, y]).cell 1⟩
theorem implJoin_any (A : Option Addr) (n c : Nat) (lf lu : Int) (l : List (Int × Int)) (w : World) (hs : Secs w w.heap.size A n l) (hn : n ≤ 1048576) :
    Calls Try.prog 16 #[.agg #[.slice A n c, .int .i64 lf, .int .i64 lu]] w (NewTrk w (joinL l lf lu) (vI (trackB l lf lu) lf) (vI (trackB l lf lu) lu) (cI (trackB l lf lu))) := by
  have HV := Lib.hid (fun W (hW : Below w.heap.size w W) => implValidTrack_any A n c lf lu l W (hs.below hW hW.size) hn)
  have HS := Lib.hid (fun W (hW : Below w.heap.size w W) => hs.below hW (Nat.le_refl _))
  have HR := Lib.hid (rows_two w 26 26 #[.slice A n c, .int .i64 lf, .int .i64 lu] #[.slice none 0 0, .int .i64 0, .int .i64 0])
  have HB := Lib.hid (((Below.refl w.heap.size w).alloc (Nat.le_refl _) (.cells #[.slice A n c, .int .i64 lf, .int .i64 lu] 26)).alloc (by simp) (.cells #[.slice none 0 0, .int .i64 0, .int .i64 0] 26))
  have hz0 : ((w.alloc (.cells #[.slice A n c, .int .i64 lf, .int .i64 lu] 26)).alloc (.cells #[.slice none 0 0, .int .i64 0, .int .i64 0] 26)).heap.size = w.heap.size + 2 := by simp
  have HZ := Lib.hid hz0
  have HLN := Lib.hid hs.1
  clear hz0 hs
  cases hv : trackB l lf lu
  · rw [hv] at HV
    rw [joinL_no hv]
    go_enter Try.func16, Try.ntmps16
    go_wp2_with fail
    generalize (w.alloc (.cells #[.slice A n c, .int .i64 lf, .int .i64 lu] 26)).alloc (.cells #[.slice none 0 0, .int .i64 0, .int .i64 0] 26) = W0 at *
    refine (HV.out _ HB.out).mono ?_
    rintro e w1 ⟨rfl, hb1⟩
    obtain ⟨r1, r2⟩ := HR.out
    have hz := HZ.out
    obtain ⟨b0, b1, b2, b3, b4, b5⟩ := (r2.below hb1 (by omega)).three
    have HB1 := Lib.hid (HB.out.trans (hb1.mono (by omega)))
    clear hb1 r1 r2 hz
    go_wp2
    refine bodyPost_ret (v := .tuple #[.agg #[.slice none 0 0, .int .i64 0, .int .i64 0], .int .i64 1]) (by simp [results, Try.results16, go_sem, b0, b1, b2]) rfl ⟨none, 0, rfl, ⟨rfl, fun h => absurd h (by simp)⟩, ?_⟩
    exact ((HB1.out.setCell (by simp) _).setCell (by simp) _).setCell (by simp) _
  · rw [hv] at HV
    have hg := (trackB_iff.1 hv).good
    have HG := Lib.hid hg
    have hl12 := hg.1
    rw [joinL_yes hv]
    clear hg
    go_enter Try.func16, Try.ntmps16
    go_wp2_with fail
    generalize (w.alloc (.cells #[.slice A n c, .int .i64 lf, .int .i64 lu] 26)).alloc (.cells #[.slice none 0 0, .int .i64 0, .int .i64 0] 26) = W0 at *
    refine (HV.out _ HB.out).mono ?_
    rintro e w1 ⟨rfl, hb1⟩
    obtain ⟨r1, r2⟩ := HR.out
    have hz := HZ.out
    obtain ⟨a0, a1, a2, _, _, _⟩ := (r1.below hb1 (by omega)).three
    have R2 := Lib.hid (r2.below hb1 (by omega))
    have HB1 := Lib.hid (HB.out.trans (hb1.mono (by omega)))
    have h12 : w.heap.size + 1 < w1.heap.size := by have := hb1.size; omega
    clear hb1 r1 r2 hz
    have RL := Lib.hid (RowAt.new w1 26 #[.slice none 0 0, .int .i64 lf, .int .i64 lu])
    have HBL := Lib.hid ((Below.refl w1.heap.size w1).alloc (Nat.le_refl _) (.cells #[.slice none 0 0, .int .i64 lf, .int .i64 lu] 26))
    have hzl : (w1.alloc (.cells #[.slice none 0 0, .int .i64 lf, .int .i64 lu] 26)).heap.size = w1.heap.size + 1 := by simp
    have OL : Hid (∃ v, Out (w1.alloc (.cells #[.slice none 0 0, .int .i64 lf, .int .i64 lu] 26)) w1.heap.size v lf lu (joinTo l 0)) := ⟨_, RL.out, World.ownsRow_nil _ _ _ _, fun _ => rfl⟩
    clear RL
    have HZL := Lib.hid hzl
    have a0L := (HBL.out.cell (p := ⟨w.heap.size, 0, none⟩) (by show w.heap.size < w1.heap.size; omega)).trans a0
    clear hzl
    go_wp2
    generalize w1.alloc (.cells #[.slice none 0 0, .int .i64 lf, .int .i64 lu] 26) = WL at *
    have HBW := Lib.hid (HB1.out.trans (HBL.out.mono HB1.out.size))
    have R2L := Lib.hid (R2.out.below HBL.out h12)
    clear a0L a0 a1 a2
    obtain ⟨i0, hi, hzz0, hzz1, hzz2⟩ := info_parts info_sec
    go_loopw [20] (fun i wr => ∃ k : Nat, k ≤ n ∧ i = .int .i64 k ∧ Hid (Below w1.heap.size WL wr) ∧ Hid (∃ v, Out wr w1.heap.size v lf lu (joinTo l k))) (fun i _ => n - (intOf i).toNat)
    case atStart => exact ⟨0, Nat.zero_le _, rfl, Below.refl _ _, OL⟩
    case round =>
      obtain ⟨k, hk, rfl, hbr, hout⟩ := hrel
      have HBR := Lib.hid (HBW.out.trans (hbr.out.mono HB1.out.size))
      obtain ⟨v, ho⟩ := hout.out
      by_cases hlt : k < n
      · obtain ⟨b, off, rfl, hb, hc⟩ := (HS.out _ HBR.out).2 (by omega)
        obtain ⟨c1, c2⟩ := hc k hlt
        clear hc
        have HJ1 : Hid (0 < (joinTo l k).length → secG (joinTo l k) ((joinTo l k).length - 1) = secG l k → joinTo l (k + 1) = (joinTo l k).set ((joinTo l k).length - 1) (secL (joinTo l k) ((joinTo l k).length - 1) + secL l k, secG (joinTo l k) ((joinTo l k).length - 1))) := join_same
        have HJ2 : Hid (¬ (0 < (joinTo l k).length ∧ secG (joinTo l k) ((joinTo l k).length - 1) = secG l k) → joinTo l (k + 1) = joinTo l k ++ [(secL l k, secG l k)]) := join_more
        have HBD := Lib.hid (joinTo_bd HG.out k (by rw [HLN.out]; exact hk))
        have hlk := joinTo_len l k
        have hk12 : k ≤ 12 := by have := HLN.out; omega
        have hto := (lenTo_bds HG.out k (by rw [HLN.out]; exact hk)).2
        have hxb := HG.out.2 k (by rw [HLN.out]; exact hlt)
        obtain ⟨x1, x2, _, _⟩ := hxb
        generalize secL l k = x at *
        generalize secG l k = y at *
        have hwr : w1.heap.size < wr.heap.size := by have := hbr.out.size; have := HZL.out; omega
        generalize joinTo l k = acc at *
        have HOW := Lib.hid (ho.alloc (.cells #[.int .i64 x, .int .i64 y] 37))
        obtain ⟨s0, s1⟩ := rows_pair wr (.int .i64 x) (.int .i64 y) 37
        have HRB := Lib.hid (RowAt.new wr 37 #[.int .i64 x, .int .i64 y])
        have HBB := Lib.hid ((Below.refl wr.heap.size wr).alloc (Nat.le_refl _) (.cells #[.int .i64 x, .int .i64 y] 37))
        have hzb : (wr.alloc (.cells #[.int .i64 x, .int .i64 y] 37)).heap.size = wr.heap.size + 1 := by simp
        have HZB := Lib.hid hzb
        obtain ⟨o0, o1, o2, o3, o4, o5⟩ := HOW.out.1.three
        clear hzb ho
        by_cases h0 : acc.length = 0
        · have hv0 := HOW.out.2.2 h0
          subst hv0
          have HA := Lib.hid (HJ2.out (fun h => by omega))
          clear HJ1 HJ2 h0
          go_wp2
          generalize wr.alloc (.cells #[.int .i64 x, .int .i64 y] 37) = Wb at *
          go_quiet (fail)
          have hsz1 := HOW.out.lt
          go_wp2_with (at_builtin; refine wpList_append_lies _ rfl _ _ 24 rfl (w1.heap.size + 1) 37 i0 (.agg #[.int .i64 0, .int .i64 0]) 2 16 Try.underlying24 hi hzz0 hzz1 hzz2 rfl (by decide) _ acc.length (flat acc) rfl ?c1 ⟨_, 0, none⟩ 1 1 [.int .i64 x, .int .i64 y] rfl rfl ?c2 ?c3 (by decide) ?c4 ?c5 ?c6 _ rfl ?_)
          case c1 => exact World.ownsRow.alloc (w := Wb.drewN _) HOW.out.2.1 _
          case c2 => exact World.news_of_block (RowAt.new (Wb.drewN _) 37 #[.int .i64 x, .int .i64 y])
          case c3 => exact flat_one [(x, y)]
          case c4 => unfold maxLen; omega
          case c5 => omega
          case c6 => simp; omega
          intro g cap w2 hown hgrow hat hlt2
          obtain ⟨⟨t0, t1⟩, t2, t3⟩ := HOW.out.append (more := [(x, y)]) (by simp) ((below_drew_alloc Wb _ _).mono (by omega)) (by simp; omega) HOW.out.own hgrow hown
          obtain ⟨f0, f1, f2, f3, f4, f5⟩ := t0.three
          have T2 := Lib.hid t2
          have T3 := Lib.hid (hbr.out.trans ((HBB.out.mono (by omega)).trans t3))
          clear t0 t1 t2 t3 hown hgrow hat
          go_wp2
          go_roundw
          case rel => exact ⟨k + 1, by omega, by go_num, T3.out, _, by rw [HA.out]; exact T2.out⟩
          case measure => simp [intOf]; omega
        · obtain ⟨g, cap, rfl, hg1, hg2⟩ := HOW.out.form (by omega)
          have hn0 : 0 < acc.length := by omega
          have i1 : IntKind.i64.wrap ((acc.length : Int) - 1) = (acc.length : Int) - 1 := IntWalk.i64_in _ (by omega)
          have i2 : (1 : Int) ≤ (acc.length : Int) := by omega
          have i3 : (acc.length : Int) - 1 < (acc.length : Int) := by omega
          have i4 : ((acc.length : Int) - 1).toNat = acc.length - 1 := by omega
          have i5 : decide ((0 : Int) ≤ (acc.length : Int) - 1) = true := decide_eq_true (by omega)
          obtain ⟨u0, u1⟩ := flat_at acc (acc.length - 1) (by omega)
          have l0 := (HOW.out.2.1.cellAt ((acc.length - 1) * 2) (by omega)).trans u0
          have l1 := (HOW.out.2.1.cellAt ((acc.length - 1) * 2 + 1) (by omega)).trans u1
          have l2 := HOW.out.2.1.frozenAt ((acc.length - 1) * 2)
          have hsz1 := HOW.out.lt
          clear u0 u1 h0
          by_cases he : secG acc (acc.length - 1) = y
          · have HA := Lib.hid (HJ1.out hn0 he)
            have hbd := HBD.out (acc.length - 1) (by omega)
            obtain ⟨d1, d2⟩ := hbd
            have hee : (secG acc (acc.length - 1) == y) = true := by rw [he]; simp
            clear HJ1 HJ2 he
            generalize hsl : secL acc (acc.length - 1) = sl at *
            generalize hsg : secG acc (acc.length - 1) = sg at *
            have HSL := Lib.hid hsl
            have HSG := Lib.hid hsg
            clear hsl hsg
            go_wp2
            generalize wr.alloc (.cells #[.int .i64 x, .int .i64 y] 37) = Wb at *
            go_quiet (fail)
            go_wp2
            have i6 : IntKind.i64.wrap (sl + x) = sl + x := IntWalk.i64_in _ (by omega)
            have hg3 : w1.heap.size + 1 ≤ g := hg1
            go_region
            go_wp2
            go_roundw
            case rel => exact ⟨k + 1, by omega, by go_num, hbr.out.trans ((HBB.out.mono (by omega)).trans (HOW.out.merge (W' := Wb.drewN _) (sg := sg) (drew_below rfl _) hn0 hg3 HSG.out).2), _, by rw [HA.out]; exact (HOW.out.merge (W' := Wb.drewN _) (sg := sg) (drew_below rfl _) hn0 hg3 HSG.out).1⟩
            case measure => simp [intOf]; omega
          · have HA := Lib.hid (HJ2.out (fun h => he h.2))
            have hee : (secG acc (acc.length - 1) == y) = false := by rw [beq_eq_false_iff_ne]; exact he
            clear HJ1 HJ2 he
            generalize secG acc (acc.length - 1) = sg at *
            go_wp2
            generalize wr.alloc (.cells #[.int .i64 x, .int .i64 y] 37) = Wb at *
            go_quiet (fail)
            go_wp2_with (at_builtin; refine wpList_append_lies _ rfl _ _ 24 rfl (w1.heap.size + 1) 37 i0 (.agg #[.int .i64 0, .int .i64 0]) 2 16 Try.underlying24 hi hzz0 hzz1 hzz2 rfl (by decide) _ acc.length (flat acc) rfl ?c1 ⟨_, 0, none⟩ 1 1 [.int .i64 x, .int .i64 y] rfl rfl ?c2 ?c3 (by decide) ?c4 ?c5 ?c6 _ rfl ?_)
            case c1 => exact World.ownsRow.alloc (w := Wb.drewN _) HOW.out.2.1 _
            case c2 => exact World.news_of_block (RowAt.new (Wb.drewN _) 37 #[.int .i64 x, .int .i64 y])
            case c3 => exact flat_one [(x, y)]
            case c4 => unfold maxLen; omega
            case c5 => omega
            case c6 => simp; omega
            intro g' cap' w2 hown hgrow hat hlt2
            obtain ⟨⟨t0, t1⟩, t2, t3⟩ := HOW.out.append (more := [(x, y)]) (by simp) ((below_drew_alloc Wb _ _).mono (by omega)) (by simp; omega) HOW.out.own hgrow hown
            obtain ⟨f0, f1, f2, f3, f4, f5⟩ := t0.three
            have T2 := Lib.hid t2
            have T3 := Lib.hid (hbr.out.trans ((HBB.out.mono (by omega)).trans t3))
            clear t0 t1 t2 t3 hown hgrow hat
            go_wp2
            go_roundw
            case rel => exact ⟨k + 1, by omega, by go_num, T3.out, _, by rw [HA.out]; exact T2.out⟩
            case measure => simp [intOf]; omega
      · have e : k = n := by omega
        subst e
        obtain ⟨A', c', rfl, hot⟩ := OwnT.of_row ho.2.1
        obtain ⟨o0, o1, o2, o3, o4, o5⟩ := ho.1.three
        have HOT2 : Hid (OwnT wr (w1.heap.size + 1) A' (joinTo l k).length (joinTo l k)) := hot
        obtain ⟨b0, b1, b2, b3, b4, b5⟩ := (R2L.out.below hbr.out h12).three
        clear ho hot
        go_wp2
        refine bodyPost_ret (v := .tuple #[.agg #[.slice A' (joinTo l k).length c', .int .i64 lf, .int .i64 lu], .int .i64 0]) (by simp [results, Try.results16, go_sem, b0, b1, b2]) rfl ?_
        rw [HLN.out]
        exact ⟨A', c', rfl, OwnT.mono (OwnT.set (OwnT.set (OwnT.set HOT2.out (show w.heap.size + 1 < w1.heap.size + 1 by omega) _) (show w.heap.size + 1 < w1.heap.size + 1 by omega) _) (show w.heap.size + 1 < w1.heap.size + 1 by omega) _) (by omega), ((HBR.out.setCell (by simp) _).setCell (by simp) _).setCell (by simp) _⟩
end Go.Proofs.Ytcpppiafjlgimaa.TrkT
