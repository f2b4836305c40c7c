/- A track drawn by choices: the walk of the reference's l03Draw, and what such a track is. -/
import Derived.Test.YtcpppiafjlgimaaSrcA
import Derived.Test.YtcpppiafjlgimaaTrkT
namespace Go.Proofs.Ytcpppiafjlgimaa.SrcT
set_option maxRecDepth 100000
open Go.RowKit Go.Proofs.Ytcpppiafjlgimaa.Plain Go.Proofs.Ytcpppiafjlgimaa.TrkP Go.Proofs.Ytcpppiafjlgimaa.WalkA Go.Proofs.Ytcpppiafjlgimaa.TrkA Go.Proofs.Ytcpppiafjlgimaa.TrkC Go.Proofs.Ytcpppiafjlgimaa.TrkS Go.Proofs.Ytcpppiafjlgimaa.TrkT
open Go.Proofs.Ytcpppiafjlgimaa.SrcA (Bys But Src Choice next_any pick_any from_any)

/-- Sections as they are drawn. -/
def GoodD (l : List (Int × Int)) : Prop := l.length ≤ 5 ∧ ∀ i, i < l.length → 20000 ≤ secL l i ∧ secL l i ≤ 219000 ∧ 50 ≤ secG l i ∧ secG l i ≤ 640
structure DrawnT (l : List (Int × Int)) (lf lu : Int) : Prop where
  good : GoodD l
  some_ : 1 ≤ l.length
  from_ : ∃ h, 5000 ≤ h ∧ h ≤ 9000 ∧ lf = lenAll l / 2 - h
  until_ : lu = lenAll l - lf
theorem GoodD.good {l : List (Int × Int)} (h : GoodD l) : GoodL l := ⟨by have := h.1; omega, fun i hi => by have := h.2 i hi; omega⟩
theorem GoodD.snoc {l : List (Int × Int)} (h : GoodD l) (hl : l.length ≤ 4) {x y : Int} (hx : 20000 ≤ x ∧ x ≤ 219000) (hy : 50 ≤ y ∧ y ≤ 640) : GoodD (l ++ [(x, y)]) := by
  refine ⟨by simp; omega, fun i hi => ?_⟩
  rw [List.length_append, List.length_singleton] at hi
  unfold secL secG
  by_cases hc : i < l.length
  · have e : (l ++ [(x, y)]).getD i (0, 0) = l.getD i (0, 0) := by
      simp [List.getD_eq_getElem?_getD, List.getElem?_append_left hc]
    rw [e]
    exact h.2 i hc
  · have hi2 : i = l.length := by omega
    subst hi2
    have e : (l ++ [(x, y)]).getD l.length (0, 0) = (x, y) := by simp [List.getD_eq_getElem?_getD]
    rw [e]
    exact ⟨hx.1, hx.2, hy.1, hy.2⟩
theorem GoodD.len {l : List (Int × Int)} (h : GoodD l) : ∀ k, k ≤ l.length → 20000 * (k : Int) ≤ lenTo l k ∧ lenTo l k ≤ 219000 * k := by
  intro k
  induction k with
  | zero => intro _; simp [lenTo]
  | succ k ih =>
    intro hk
    have a := ih (by omega)
    have b := h.2 k (by omega)
    simp only [lenTo]
    omega
theorem DrawnT.len {l : List (Int × Int)} {lf lu : Int} (h : DrawnT l lf lu) : 20000 ≤ lenAll l ∧ lenAll l ≤ 1095000 := by
  have a := h.good.len l.length (Nat.le_refl _)
  have b := h.good.1
  have c := h.some_
  unfold lenAll
  omega
theorem DrawnT.valid {l : List (Int × Int)} {lf lu : Int} (h : DrawnT l lf lu) : Valid l lf lu := by
  have a := h.len
  obtain ⟨hh, h1, h2, h3⟩ := h.from_
  have h4 := h.until_
  exact ⟨h.good.good, h.some_, by omega, by omega, by omega⟩
theorem But.low {p B : Nat} {w0 w w' : World} (h : But p w0 w) (hb : Below B w w') (hB : w0.heap.size ≤ B) : But p w0 w' :=
  ⟨hb.os.trans h.os, hb.tape.trans h.tape, hb.output.trans h.output, Nat.le_trans h.size hb.size, fun k hk hp => (hb.block k (by omega)).trans (h.block k hk hp)⟩
theorem Src.low {B : Nat} {w w' : World} {p : Nat} {A : Option Addr} {n c K : Nat} (h : Src w p A n c K) (hb : Below B w w') (hp : p < B) : Src w' p A n c K := by
  obtain ⟨a, s, h0, h1, h2, h3, h4⟩ := h
  exact ⟨a, s, h0, h1, (hb.block p hp).trans h2, h3.below (hb.mono (Nat.le_of_lt hp)) (Nat.le_refl _), h4⟩
theorem Out.but {W W' : World} {p q : Nat} {v : Value} {lf lu : Int} {acc : List (Int × Int)} (h : Out W q v lf lu acc) (hb : But p W W') (hpq : p < q) : Out W' q v lf lu acc :=
  ⟨(hb.block q h.1.lt (by omega)).trans h.1, h.2.1.kept (base := q + 1) (row := some p) ⟨hb.os, hb.tape, hb.output, hb.size, fun k hk hne => hb.block k hk (fun e => hne (by rw [e]))⟩ (.inr fun e => by
    have := (h.2.1.lt p e).1
    omega), h.2.2⟩
theorem row3 {w : World} {g : Nat} {t : TypeId} {a b c : Value} (h : RowAt w g t #[a, b, c]) :
    w.cell? ⟨g, 0, none⟩ = some a ∧ w.cell? ⟨g, 1, none⟩ = some b ∧ w.cell? ⟨g, 2, none⟩ = some c ∧ w.frozen? ⟨g, 0, none⟩ = false ∧ w.frozen? ⟨g, 1, none⟩ = false ∧ w.frozen? ⟨g, 2, none⟩ = false :=
  ⟨h.cell 0, h.cell 1, h.cell 2, h.frozen 0, h.frozen 1, h.frozen 2⟩
theorem row2 {w : World} {g : Nat} {t : TypeId} {a b : Value} (h : RowAt w g t #[a, b]) :
    w.cell? ⟨g, 0, none⟩ = some a ∧ w.cell? ⟨g, 1, none⟩ = some b ∧ w.frozen? ⟨g, 0, none⟩ = false ∧ w.frozen? ⟨g, 1, none⟩ = false :=
  ⟨h.cell 0, h.cell 1, h.frozen 0, h.frozen 1⟩
theorem info_sec : (Try.prog.info? 37).map (fun i => (i.zero, i.size, i.bytes)) = some (some (.agg #[.int .i64 0, .int .i64 0]), 2, 16) := by kernel_rfl
/-- What the loop of the draw keeps. -/
structure Kept (w : World) (p : Nat) (A : Option Addr) (n c K : Nat) (v : Value) (l : List (Int × Int)) (wr : World) : Prop where
  src : Src wr p A n c K
  but : But p w wr
  res : RowAt wr w.heap.size 26 #[.slice none 0 0, .int .i64 0, .int .i64 0]
  out : Out wr (w.heap.size + 1) v 0 0 l
theorem Kept.choice {w wr w' : World} {p : Nat} {A : Option Addr} {n c K K' : Nat} {v : Value} {l : List (Int × Int)} (h : Kept w p A n c K v l wr) (hp : p < w.heap.size) (hs : Src w' p A n c K') (hb : But p wr w') : Kept w p A n c K' v l w' :=
  ⟨hs, h.but.trans hb, (hb.block _ h.res.lt (by omega)).trans h.res, Out.but h.out hb (by omega)⟩
theorem Kept.below {w wr w' : World} {p : Nat} {A : Option Addr} {n c K : Nat} {v : Value} {l : List (Int × Int)} (h : Kept w p A n c K v l wr) (hb : Below wr.heap.size wr w') : Kept w p A n c K v l w' :=
  ⟨h.src.below hb, h.but.trans (But.of hb), h.res.below hb h.res.lt, h.out.below hb⟩
theorem Kept.box {w wr : World} {p s : Nat} {A : Option Addr} {n c K : Nat} {v : Value} {l : List (Int × Int)} (h : Kept w p A n c K v l wr) (hp : p < w.heap.size) (hs : w.heap.size + 1 < s) (o : Nat) (u : Value) (hv : ∀ k, v.ownBlock = some k → k ≠ s) : Kept w p A n c K v l (wr.setCell ⟨s, o, none⟩ u) := by
  have hB : Below s wr (wr.setCell ⟨s, o, none⟩ u) := (Below.refl s wr).setCell (show s ≤ (⟨s, o, none⟩ : Addr).block from Nat.le_refl s) u
  have hB2 : But s wr (wr.setCell ⟨s, o, none⟩ u) := But.set wr o u
  refine ⟨Src.low h.src hB (by omega), But.low h.but hB (by omega), h.res.below hB (by omega), (hB.block _ (by omega)).trans h.out.1, h.out.2.1.kept (row := some s) ⟨rfl, rfl, rfl, hB2.size, fun k hk hne => hB2.block k hk (fun e => hne (by rw [e]))⟩ (.inr fun e => hv s e rfl), h.out.2.2⟩
def DrawTP (p : Nat) (w : World) (e : Ending) (w' : World) : Prop :=
  ∃ (g cp : Nat) (l : List (Int × Int)) (lf lu : Int), e = .returned (.agg #[.slice (some ⟨g, 0, none⟩) l.length cp, .int .i64 lf, .int .i64 lu]) ∧ w.heap.size ≤ g ∧ g < w'.heap.size ∧ Secs w' w'.heap.size (some ⟨g, 0, none⟩) l.length l ∧ DrawnT l lf lu ∧ But p w w'
set_option maxHeartbeats 1000000 in
theorem draw_any (p : Nat) (A : Option Addr) (n c : Nat) (w : World) (hs : Src w p A n c 0) : Calls Try.prog 20 #[.pointer (some ⟨p, 0, none⟩)] w (DrawTP p w) := by
  have hp := hs.lt
  obtain ⟨i0, hi, hz0, hz1, hz2⟩ := info_parts info_sec
  have HK0 : Hid (Kept w p A n c 0 (.slice none 0 0) [] ((w.alloc (.cells #[.slice none 0 0, .int .i64 0, .int .i64 0] 26)).alloc (.cells #[.slice none 0 0, .int .i64 0, .int .i64 0] 26))) := by
    have b1 : Below w.heap.size w (w.alloc (.cells #[.slice none 0 0, .int .i64 0, .int .i64 0] 26)) := (Below.refl _ _).alloc (Nat.le_refl _) _
    have b2 : Below (w.alloc (.cells #[.slice none 0 0, .int .i64 0, .int .i64 0] 26)).heap.size _ ((w.alloc (.cells #[.slice none 0 0, .int .i64 0, .int .i64 0] 26)).alloc (.cells #[.slice none 0 0, .int .i64 0, .int .i64 0] 26)) := (Below.refl _ _).alloc (Nat.le_refl _) _
    have b3 := b1.trans (b2.mono b1.size)
    have hr : RowAt (w.alloc (.cells #[.slice none 0 0, .int .i64 0, .int .i64 0] 26)) w.heap.size 26 #[.slice none 0 0, .int .i64 0, .int .i64 0] := RowAt.new w _ _
    have hq : RowAt ((w.alloc (.cells #[.slice none 0 0, .int .i64 0, .int .i64 0] 26)).alloc (.cells #[.slice none 0 0, .int .i64 0, .int .i64 0] 26)) (w.heap.size + 1) 26 #[.slice none 0 0, .int .i64 0, .int .i64 0] := by
      have := RowAt.new (w.alloc (.cells #[.slice none 0 0, .int .i64 0, .int .i64 0] 26)) 26 #[.slice none 0 0, .int .i64 0, .int .i64 0]
      rw [World.size_alloc] at this
      exact this
    exact ⟨hs.below b3, But.of b3, hr.below b2 hr.lt, hq, ⟨rfl, .inl ⟨rfl, rfl⟩⟩, fun _ => rfl⟩
  clear hs
  go_enter Try.func20, Try.ntmps20
  go_wp2_with fail
  generalize (w.alloc (.cells #[.slice none 0 0, .int .i64 0, .int .i64 0] 26)).alloc (.cells #[.slice none 0 0, .int .i64 0, .int .i64 0] 26) = W1 at *
  refine (pick_any p A n c 0 (by omega) 5 (by omega) W1 HK0.out.src).mono ?_
  rintro e w1 ⟨x, x0, x1, rfl, hs1, hb1, hz1⟩
  have HK1 := Lib.hid (HK0.out.choice hp hs1 hb1)
  obtain ⟨k0, rfl⟩ : ∃ k0 : Nat, x = k0 := ⟨x.toNat, by omega⟩
  clear hs1 hb1 hz1 HK0
  go_wp2_with fail
  go_loopw [4] (fun kv wr => ∃ (j K : Nat) (v : Value) (l : List (Int × Int)), kv = .int .i64 j ∧ l.length + j = k0 + 1 ∧ K + 4 * j ≤ 30 ∧ Hid (GoodD l) ∧ Hid (Kept w p A n c K v l wr)) (fun kv _ => (intOf kv).toNat)
  case atStart => exact ⟨k0 + 1, 2, .slice none 0 0, [], by go_num, by simp, by omega, ⟨by simp, fun i hi => by simp at hi⟩, HK1.out⟩
  case round =>
    obtain ⟨j, K, v, l, rfl, hl, hK, hg, hkp⟩ := hrel
    by_cases hj : 0 < j
    · have hj1 : (0 : Int) < (j : Int) := by omega
      have HN1 := Lib.hid (pick_any p A n c K (by omega) 200 (by omega) wr hkp.out.src)
      go_wp2_with fail
      refine HN1.out.mono ?_
      rintro e w1 ⟨x, x0, x1, rfl, hs1, hb1, hz1⟩
      have HK1 := Lib.hid (hkp.out.choice hp hs1 hb1)
      clear HN1 hs1 hb1 hz1
      obtain ⟨X, hX⟩ : ∃ X, 20000 + 1000 * x = X := ⟨_, rfl⟩
      have hX1 : 20000 ≤ X ∧ X ≤ 219000 := by omega
      have hws := HK1.out.out.lt
      have HKA := Lib.hid (HK1.out.below ((Below.refl _ _).alloc (Nat.le_refl _) (.cells #[.int .i64 X, .int .i64 0] 37)))
      have HSA := Lib.hid (RowAt.new w1 37 #[.int .i64 X, .int .i64 0])
      have HVN := Lib.hid (fun k (h : v.ownBlock = some k) => show k ≠ w1.heap.size from Nat.ne_of_lt (HK1.out.out.2.1.lt k h).2)
      have HN2 := Lib.hid (fun W (h : Src W p A n c (K + 2)) => pick_any p A n c (K + 2) (by omega) 60 (by omega) W h)
      go_wp2_with fail
      generalize w1.alloc (.cells #[.int .i64 X, .int .i64 0] 37) = WA at *
      refine (HN2.out _ HKA.out.src).mono ?_
      rintro e w3 ⟨y, y0, y1, rfl, hs3, hb3, hz3⟩
      have HK3 := Lib.hid (HKA.out.choice hp hs3 hb3)
      have hps : p ≠ w1.heap.size := by have := HK1.out.src.lt; omega
      have HS3 := Lib.hid ((hb3.block _ HSA.out.lt (fun e => hps e.symm)).trans HSA.out : RowAt w3 w1.heap.size 37 #[.int .i64 X, .int .i64 0])
      clear hs3 hb3 hz3
      obtain ⟨Y, hY⟩ : ∃ Y, 50 + 10 * y = Y := ⟨_, rfl⟩
      have hY1 : 50 ≤ Y ∧ Y ≤ 640 := by omega
      have HK4 := Lib.hid (HK3.out.box (s := w1.heap.size) hp (by omega) 1 (.int .i64 Y) HVN.out)
      have HS4 : Hid (RowAt (w3.setCell ⟨w1.heap.size, 1, none⟩ (.int .i64 Y)) w1.heap.size 37 #[.int .i64 X, .int .i64 Y]) := TrkC.RowAt.store HS3.out 1 (.int .i64 Y)
      obtain ⟨a0, a1, a2, a3⟩ := row2 HS3.out
      obtain ⟨c0, c1, _, _⟩ := row2 HS4.out
      obtain ⟨d0, d1, d2, _, _, _⟩ := row3 HK4.out.out.1
      have hown := HK4.out.out.2.1
      have HOWN := Lib.hid hown
      clear hown
      have hll : l.length ≤ 4 := by omega
      have m1 : l.length + 1 ≤ maxLen := by unfold maxLen; omega
      have m2 : (l.length + 1) * 16 ≤ 140737488355328 := by omega
      have hsz4 : (w3.setCell ⟨w1.heap.size, 1, none⟩ (.int .i64 Y)).heap.size = w3.heap.size := by simp [World.setCell]
      have hw3 := HK3.out.out.lt
      have HNEW := Lib.hid (World.news_of_block (RowAt.new (w3.setCell ⟨w1.heap.size, 1, none⟩ (.int .i64 Y)) 37 #[.int .i64 X, .int .i64 Y]))
      rw [hsz4] at HNEW
      clear hsz4
      go_wp2_with (at_builtin; refine wpList_append_lies _ rfl _ _ 24 rfl (w.heap.size + 1 + 1) 37 i0 (.agg #[.int .i64 0, .int .i64 0]) 2 16 Try.underlying24 hi hz0 hz1 hz2 rfl (by decide) _ l.length (flat l) rfl (World.ownsRow.alloc HOWN.out _) ⟨_, 0, none⟩ 1 1 [.int .i64 X, .int .i64 Y] rfl rfl HNEW.out (flat_one [(X, Y)]) (by decide) m1 m2 (by simp; omega) _ rfl ?_)
      intro gc capc w5 hown hgrow hat hltc
      have hlow := below_drew_alloc (w3.setCell ⟨w1.heap.size, 1, none⟩ (.int .i64 Y)) 0 (.cells #[.int .i64 X, .int .i64 Y] 37)
      obtain ⟨⟨t0, t1⟩, t2, t3⟩ := HK4.out.out.append (more := [(X, Y)]) (by simp) (((Below.refl _ _).alloc (Nat.le_refl _) _ : Below (w3.setCell ⟨w1.heap.size, 1, none⟩ (.int .i64 Y)).heap.size _ ((w3.setCell ⟨w1.heap.size, 1, none⟩ (.int .i64 Y)).alloc (.cells #[.int .i64 X, .int .i64 Y] 37))).mono (HK4.out.out.lt)) (by have := HK4.out.out.lt; simp; omega) HK4.out.out.own hgrow hown
      have HKN : Hid (Kept w p A n c (K + 2 + 2) (.slice (some ⟨gc, 0, none⟩) (l.length + 1) capc) (l ++ [(X, Y)]) (w5.setCell ⟨w.heap.size + 1, 0, none⟩ (.slice (some ⟨gc, 0, none⟩) (l.length + 1) capc))) :=
        ⟨Src.low HK4.out.src t3 (by omega), But.low HK4.out.but t3 (by omega), HK4.out.res.below t3 (by omega), t2⟩
      have HGN := Lib.hid (GoodD.snoc hg.out hll hX1 hY1)
      obtain ⟨r0, _, _, r3, _, _⟩ := row3 t0
      clear t0 t1 t2 t3 hown hgrow hat hlow a0 a1 a2 a3 c0 c1 d0 d1 d2
      go_wp2
      go_roundw
      case rel => exact ⟨j - 1, K + 2 + 2, _, l ++ [(X, Y)], by congr 1; omega, by rw [List.length_append, List.length_singleton]; omega, by omega, HGN.out, HKN.out⟩
      case measure => simp [intOf]; omega
    · have hj0 : j = 0 := by omega
      subst hj0
      have hlp : 0 < l.length := by omega
      obtain ⟨g, cap, rfl, hgB, hgs⟩ := hkp.out.out.form hlp
      have HOT : Hid (OwnT wr (w.heap.size + 1 + 1) (some ⟨g, 0, none⟩) l.length l) := by
        obtain ⟨A', c', e, h⟩ := OwnT.of_row hkp.out.out.2.1
        injection e with e1 e2 e3
        subst e1
        exact h
      have hgood := hg.out.good
      obtain ⟨d0, d1, d2, d3, d4, d5⟩ := row3 hkp.out.out.1
      have HLEN := Lib.hid (specLength_any (w.heap.size + 1) (some ⟨g, 0, none⟩) l.length cap l wr.heap.size wr d0 HOT.out.secs hgood)
      have hbds := hg.out.len l.length (Nat.le_refl _)
      have hl5 := hg.out.1
      have hLL : 20000 ≤ lenAll l ∧ lenAll l ≤ 1095000 := by show 20000 ≤ lenTo l l.length ∧ lenTo l l.length ≤ 1095000; omega
      have HGD := Lib.hid hg.out
      clear hbds hgood hi hz0 hz1 hz2
      obtain ⟨LL, hLLe⟩ : ∃ LL, LL = lenAll l := ⟨_, rfl⟩
      rw [← hLLe] at HLEN hLL
      have HLE := Lib.hid hLLe
      clear hLLe
      have HN := Lib.hid (pick_any p A n c K (by omega) 5 (by omega) wr hkp.out.src)
      go_wp2_with fail
      refine HLEN.out.mono ?_
      rintro e w1 ⟨rfl, rfl⟩
      go_wp2_with fail
      refine HN.out.mono ?_
      rintro e w2 ⟨x, x0, x1, rfl, hs2, hb2, hz2⟩
      have HK2 := Lib.hid (hkp.out.choice hp hs2 hb2)
      have HOT2 : Hid (OwnT w2 (w.heap.size + 1 + 1) (some ⟨g, 0, none⟩) l.length l) := by
        obtain ⟨A', c', e, h⟩ := OwnT.of_row HK2.out.out.2.1
        injection e with e1 e2 e3
        subst e1
        exact h
      clear hs2 hb2 hz2 d0 d1 d2 d3 d4 d5
      obtain ⟨d0, d1, d2, d3, d4, d5⟩ := row3 HK2.out.out.1
      obtain ⟨r0, r1, r2, r3, r4, r5⟩ := row3 HK2.out.res
      go_wp2_with fail
      obtain ⟨lf, hlf⟩ : ∃ lf, lf = LL / 2 - (5000 + 1000 * x) := ⟨_, rfl⟩
      rw [← hlf]
      obtain ⟨lu, hlu⟩ : ∃ lu, lu = LL - lf := ⟨_, rfl⟩
      rw [← hlu]
      obtain ⟨W9, hW9⟩ : ∃ W9, W9 = (((((w2.setCell ⟨w.heap.size + 1, 1, none⟩ (.int .i64 lf)).setCell ⟨w.heap.size + 1, 2, none⟩ (.int .i64 lu)).setCell ⟨w.heap.size, 0, none⟩ (.slice (some ⟨g, 0, none⟩) l.length cap)).setCell ⟨w.heap.size, 1, none⟩ (.int .i64 lf)).setCell ⟨w.heap.size, 2, none⟩ (.int .i64 lu)) := ⟨_, rfl⟩
      rw [← hW9]
      have hq : (⟨w.heap.size + 1, 1, none⟩ : Addr).block ≠ w.heap.size := by show w.heap.size + 1 ≠ w.heap.size; omega
      have hR9 : RowAt W9 w.heap.size 26 #[.slice (some ⟨g, 0, none⟩) l.length cap, .int .i64 lf, .int .i64 lu] := by
        rw [hW9]
        have a1 := TrkC.RowAt.far HK2.out.res (p := ⟨w.heap.size + 1, 1, none⟩) (by show w.heap.size + 1 ≠ w.heap.size; omega) (.int .i64 lf)
        have a2 := TrkC.RowAt.far a1 (p := ⟨w.heap.size + 1, 2, none⟩) (by show w.heap.size + 1 ≠ w.heap.size; omega) (.int .i64 lu)
        exact TrkC.RowAt.store (TrkC.RowAt.store (TrkC.RowAt.store a2 0 (.slice (some ⟨g, 0, none⟩) l.length cap)) 1 (.int .i64 lf)) 2 (.int .i64 lu)
      have hO9 : OwnT W9 (w.heap.size + 1 + 1) (some ⟨g, 0, none⟩) l.length l := by
        rw [hW9]
        refine OwnT.set (OwnT.set (OwnT.set (OwnT.set (OwnT.set HOT2.out ?_ _) ?_ _) ?_ _) ?_ _) ?_ _
        all_goals first | (show w.heap.size + 1 < w.heap.size + 1 + 1; omega) | (show w.heap.size < w.heap.size + 1 + 1; omega)
      have hB9 : Below w.heap.size w2 W9 := by
        rw [hW9]
        refine ((((((Below.refl _ _).setCell ?_ _).setCell ?_ _).setCell ?_ _).setCell ?_ _).setCell ?_ _)
        all_goals first | (show w.heap.size ≤ w.heap.size + 1; omega) | (show w.heap.size ≤ w.heap.size; omega)
      have hBut := But.low HK2.out.but hB9 (Nat.le_refl _)
      have hle := HLE.out
      have hdr : DrawnT l lf lu := ⟨HGD.out, hlp, ⟨5000 + 1000 * x, by omega, by omega, by rw [hlf, hle]⟩, by rw [hlu, hle]⟩
      have hsec := hO9.secs
      have hg9 : g < W9.heap.size := by
        obtain ⟨b, off, e, hb, _⟩ := hsec.2 hlp
        injection e with e
        injection e with e
        omega
      have HFIN : Hid (DrawTP p w (.returned (.agg #[.slice (some ⟨g, 0, none⟩) l.length cap, .int .i64 lf, .int .i64 lu])) W9) := ⟨g, cap, l, lf, lu, rfl, by omega, hg9, hsec, hdr, hBut⟩
      obtain ⟨y0, y1, y2, _, _, _⟩ := row3 hR9
      clear hlf hlu hW9
      exact bodyPost_ret (v := .agg #[.slice (some ⟨g, 0, none⟩) l.length cap, .int .i64 lf, .int .i64 lu]) (by simp [results, Try.results20, go_sem, y0, y1, y2]) rfl HFIN.out

/-- A track drawn from bytes. -/
def TrackP (w : World) (e : Ending) (w' : World) : Prop :=
  ∃ (g cp : Nat) (l : List (Int × Int)) (lf lu : Int), e = .returned (.agg #[.slice (some ⟨g, 0, none⟩) l.length cp, .int .i64 lf, .int .i64 lu]) ∧ w.heap.size ≤ g ∧ g < w'.heap.size ∧ Secs w' w'.heap.size (some ⟨g, 0, none⟩) l.length l ∧ DrawnT l lf lu ∧ Below w.heap.size w w'
theorem r8Track_any (A : Option Addr) (n c : Nat) (w : World) (hb : Bys w w.heap.size A n) (hn : n ≤ 1048576) : Calls Try.prog 5 #[.slice A n c] w (TrackP w) := by
  have hz1 : (w.alloc (.cells #[.slice none 0 0, .int .i64 0, .int .i64 0] 26)).heap.size = w.heap.size + 1 := by simp
  have b1 : Below w.heap.size w (w.alloc (.cells #[.slice none 0 0, .int .i64 0, .int .i64 0] 26)) := (Below.refl _ _).alloc (Nat.le_refl _) _
  have HROW := Lib.hid (RowAt.new w 26 #[.slice none 0 0, .int .i64 0, .int .i64 0])
  have HF := Lib.hid (from_any A n c (w.alloc (.cells #[.slice none 0 0, .int .i64 0, .int .i64 0] 26)) (hb.below b1 b1.size) hn)
  have HB1 := Lib.hid b1
  have HZ1 := Lib.hid hz1
  clear hb b1 hz1
  go_enter Try.func5, Try.ntmps5
  go_wp2_with fail
  generalize w.alloc (.cells #[.slice none 0 0, .int .i64 0, .int .i64 0] 26) = W1 at *
  refine HF.out.mono ?_
  rintro e w1 ⟨rfl, hs1, hb1, hzz⟩
  go_wp2_with fail
  refine (draw_any W1.heap.size A n c w1 hs1).mono ?_
  rintro e w2 ⟨g, cp, l, lf, lu, rfl, hg1, hg2, hsec, hdr, hbut⟩
  have hz := HZ1.out
  have hlt : w.heap.size < W1.heap.size := by omega
  have hR2 : RowAt w2 w.heap.size 26 #[.slice none 0 0, .int .i64 0, .int .i64 0] := (hbut.block w.heap.size (by omega) (by omega)).trans (HROW.out.below hb1 (by omega))
  have hB2 : Below w.heap.size w w2 := (HB1.out.trans (hb1.mono (by omega))).trans (hbut.below (by omega) (by omega))
  obtain ⟨a0, a1, a2, a3, a4, a5⟩ := row3 hR2
  have HFIN : Hid (∀ W9, W9 = ((w2.setCell ⟨w.heap.size, 0, none⟩ (.slice (some ⟨g, 0, none⟩) l.length cp)).setCell ⟨w.heap.size, 1, none⟩ (.int .i64 lf)).setCell ⟨w.heap.size, 2, none⟩ (.int .i64 lu) → RowAt W9 w.heap.size 26 #[.slice (some ⟨g, 0, none⟩) l.length cp, .int .i64 lf, .int .i64 lu] ∧ TrackP w (.returned (.agg #[.slice (some ⟨g, 0, none⟩) l.length cp, .int .i64 lf, .int .i64 lu])) W9) := fun W9 hW9 => by
    have hs9 : W9.heap.size = w2.heap.size := by rw [hW9]; simp [World.setCell]
    have hB9 : Below w.heap.size w2 W9 := by
      rw [hW9]
      refine ((((Below.refl _ _).setCell ?_ _).setCell ?_ _).setCell ?_ _)
      all_goals exact Nat.le_refl _
    have hB3 : But w.heap.size w2 W9 := by
      rw [hW9]
      exact ((But.set _ 0 _).trans (But.set _ 1 _)).trans (But.set _ 2 _)
    refine ⟨by rw [hW9]; exact TrkC.RowAt.store (TrkC.RowAt.store (TrkC.RowAt.store hR2 0 (.slice (some ⟨g, 0, none⟩) l.length cp)) 1 (.int .i64 lf)) 2 (.int .i64 lu), g, cp, l, lf, lu, rfl, by omega, by omega, ⟨hsec.1, fun h0 => ?_⟩, hdr, hB2.trans (hB9)⟩
    obtain ⟨b, off, e, hb, hc⟩ := hsec.2 h0
    refine ⟨b, off, e, by omega, fun i hi => ?_⟩
    injection e with e
    injection e with e
    have hne : b ≠ w.heap.size := by omega
    obtain ⟨u0, u1⟩ := hc i hi
    exact ⟨(hB3.cell hb hne).trans u0, (hB3.cell hb hne).trans u1⟩
  clear hR2 hB2 hbut hsec hdr hb1 hs1 hzz hz hlt
  go_wp2_with fail
  obtain ⟨W9, hW9⟩ : ∃ W9, W9 = ((w2.setCell ⟨w.heap.size, 0, none⟩ (.slice (some ⟨g, 0, none⟩) l.length cp)).setCell ⟨w.heap.size, 1, none⟩ (.int .i64 lf)).setCell ⟨w.heap.size, 2, none⟩ (.int .i64 lu) := ⟨_, rfl⟩
  obtain ⟨hR9, hT9⟩ := HFIN.out W9 hW9
  rw [← hW9]
  obtain ⟨y0, y1, y2, _, _, _⟩ := row3 hR9
  clear hW9
  exact bodyPost_ret (v := .agg #[.slice (some ⟨g, 0, none⟩) l.length cp, .int .i64 lf, .int .i64 lu]) (by simp [results, Try.results5, go_sem, y0, y1, y2]) rfl hT9
end Go.Proofs.Ytcpppiafjlgimaa.SrcT
