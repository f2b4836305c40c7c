/- Draws of bends, one by one: choices among some, a bend, a bend that is bent, numbers of the laws. Of what is drawn nothing is told but its kind. -/
import Derived.Test.YtlknncmnphbpkaaGreatDoorSrcA
namespace Go.Proofs.YtlknncmnphbpkaaGreatDoor.BdrA
set_option maxRecDepth 100000
open Go.RowKit Go.Proofs.YtlknncmnphbpkaaGreatDoor.Plain
open Go.Proofs.YtlknncmnphbpkaaGreatDoor.SrcA

theorem b10Long_any (A : Option Addr) (n c : Nat) (_ : n ≤ 9223372036854775807) (w : World) :
    Calls Tryz.prog 4 #[.slice A n c] w fun e w' => e = .returned (.bool (decide (1048576 < n))) ∧ w = w' := by
  by_cases h : 1048576 < n
  · rw [decide_eq_true h]
    have h2 : (1048576 : Int) < (n : Int) := by omega
    have h4 : decide ((1048576 : Int) < (n : Int)) = true := decide_eq_true h2
    clear h h2
    go_enter Tryz.func4, Tryz.ntmps4
    go_wp2
    go_ret
    exact ⟨rfl, rfl⟩
  · rw [decide_eq_false h]
    have h2 : ¬ (1048576 : Int) < (n : Int) := by omega
    have h4 : decide ((1048576 : Int) < (n : Int)) = false := decide_eq_false h2
    clear h h2
    go_enter Tryz.func4, Tryz.ntmps4
    go_wp2
    go_ret
    exact ⟨rfl, rfl⟩
/-- Some number, and the source goes on. -/
def Num (p : Nat) (A : Option Addr) (n c K : Nat) (w : World) (e : Ending) (w' : World) : Prop := ∃ x : Int, e = .returned (.int .i64 x) ∧ Src w' p A n c K ∧ But p w w'
theorem one_any (p : Nat) (A : Option Addr) (n c K : Nat) (hK : K ≤ 999000) (m : Int) (hm : 1 < m ∧ m ≤ 60000) (w : World) (h : Src w p A n c K) :
    Calls Tryz.prog 48 #[.pointer (some ⟨p, 0, none⟩), .int .i64 m] w fun e w' => ∃ b, e = .returned (.bool b) ∧ Src w' p A n c (K + 2) ∧ But p w w' := by
  have HP := Lib.hid (pick_any p A n c K hK m hm w h)
  clear h
  go_enter Tryz.func48, Tryz.ntmps48
  go_wp2_with fail
  refine HP.out.mono ?_
  rintro e w1 ⟨x, x0, x1, rfl, hs1, hb1, hz1⟩
  have HS := Lib.hid hs1
  have HB := Lib.hid hb1
  clear hs1 hb1 hz1
  go_wp2_with fail
  go_ret
  exact ⟨_, rfl, HS.out, HB.out⟩
/-- The cells of a list of numbers. -/
def Nums (w : World) (g m : Nat) : Prop := g < w.heap.size ∧ ∀ i, i < m → ∃ v : Int, w.cell? ⟨g, i, none⟩ = some (.int .i64 v)
theorem among_any (p : Nat) (A : Option Addr) (n c K : Nat) (hK : K ≤ 999000) (g m cp : Nat) (hm : 1 < m ∧ m ≤ 100) (w : World) (h : Src w p A n c K) (hl : Nums w g m) (hg : g ≠ p) :
    Calls Tryz.prog 47 #[.pointer (some ⟨p, 0, none⟩), .slice (some ⟨g, 0, none⟩) m cp] w (Num p A n c (K + 2) w) := by
  have HP := Lib.hid (pick_any p A n c K hK m (by omega) w h)
  have HL := Lib.hid hl
  clear h hl
  go_enter Tryz.func47, Tryz.ntmps47
  go_wp2_with fail
  refine HP.out.mono ?_
  rintro e w1 ⟨x, x0, x1, rfl, hs1, hb1, hz1⟩
  obtain ⟨k, rfl⟩ : ∃ k : Nat, x = k := ⟨x.toNat, by omega⟩
  have HS := Lib.hid hs1
  have HB := Lib.hid hb1
  obtain ⟨v, hv⟩ := HL.out.2 k (by omega)
  have hv1 := (hb1.cell (o := k) HL.out.1 hg).trans hv
  have hkm : (k : Int) < (m : Int) := by omega
  clear hs1 hb1 hz1 hv
  go_wp2_with fail
  go_ret
  exact ⟨_, rfl, HS.out, HB.out⟩
/-- Some bend with a name. -/
def BendR (p : Nat) (A : Option Addr) (n c K : Nat) (s : ByteArray) (w : World) (e : Ending) (w' : World) : Prop :=
  ∃ x y z : Int, e = .returned (.agg #[.string s, .int .i64 x, .int .i64 y, .int .i64 z]) ∧ Src w' p A n c K ∧ But p w w'
theorem Src.low {B : Nat} {w w' : World} {p : Nat} {A : Option Addr} {n c K : Nat} (h : Src w p A n c K) (hb : Below B w w') (hp : p < B) : Src w' p A n c K := by
  obtain ⟨a, s, h0, h1, h2, h3, h4⟩ := h
  exact ⟨a, s, h0, h1, (hb.block p hp).trans h2, h3.below (hb.mono (Nat.le_of_lt hp)) (Nat.le_refl _), h4⟩
theorem But.low {p B : Nat} {w0 w w' : World} (h : But p w0 w) (hb : Below B w w') (hB : w0.heap.size ≤ B) : But p w0 w' :=
  ⟨hb.os.trans h.os, hb.tape.trans h.tape, hb.output.trans h.output, Nat.le_trans h.size hb.size, fun k hk hp => (hb.block k (by omega)).trans (h.block k hk hp)⟩
theorem row_low {B : Nat} {w w' : World} {g : Nat} {t : TypeId} {cs : Array Value} (h : RowAt w g t cs) (hb : Below B w w') (hg : g < B) : RowAt w' g t cs := (hb.block g hg).trans h
theorem RowAt.far {w : World} {g : Nat} {t : TypeId} {cs : Array Value} (h : RowAt w g t cs) {q : Addr} (hq : q.block ≠ g) (u : Value) : RowAt (w.setCell q u) g t cs :=
  (Below.heap_setCell w q u g (fun e => hq e.symm)).trans h
theorem row4 {W : World} {g : Nat} {t : TypeId} {a b c d : Value} (h : RowAt W g t #[a, b, c, d]) :
    W.cell? ⟨g, 0, none⟩ = some a ∧ W.cell? ⟨g, 1, none⟩ = some b ∧ W.cell? ⟨g, 2, none⟩ = some c ∧ W.cell? ⟨g, 3, none⟩ = some d ∧ W.frozen? ⟨g, 0, none⟩ = false ∧ W.frozen? ⟨g, 1, none⟩ = false ∧ W.frozen? ⟨g, 2, none⟩ = false ∧ W.frozen? ⟨g, 3, none⟩ = false :=
  ⟨h.cell 0, h.cell 1, h.cell 2, h.cell 3, h.frozen 0, h.frozen 1, h.frozen 2, h.frozen 3⟩
theorem rowSet4 {W : World} {g : Nat} {t : TypeId} {a0 b0 c0 d0 : Value} (h : RowAt W g t #[a0, b0, c0, d0]) (a b c d : Value) :
    RowAt ((((W.setCell ⟨g, 0, none⟩ a).setCell ⟨g, 1, none⟩ b).setCell ⟨g, 2, none⟩ c).setCell ⟨g, 3, none⟩ d) g t #[a, b, c, d] := (((h.store 0 a).store 1 b).store 2 c).store 3 d
theorem set4_below (W : World) (g : Nat) (a b c d : Value) : Below g W ((((W.setCell ⟨g, 0, none⟩ a).setCell ⟨g, 1, none⟩ b).setCell ⟨g, 2, none⟩ c).setCell ⟨g, 3, none⟩ d) :=
  (((((Below.refl g W).setCell (Nat.le_refl _) _).setCell (Nat.le_refl _) _).setCell (Nat.le_refl _) _).setCell (Nat.le_refl _) _)
/-- What a drawing function keeps: the source, all else, its own results' row. -/
structure Kep (w : World) (p : Nat) (A : Option Addr) (n c K : Nat) (r : Nat) (W : World) : Prop where
  src : Src W p A n c K
  but : But p w W
  res : RowAt W r 25 #[.string ⟨#[]⟩, .int .i64 0, .int .i64 0, .int .i64 0]
theorem Kep.choice {w W W' : World} {p : Nat} {A : Option Addr} {n c K K' r : Nat} (h : Kep w p A n c K r W) (hr : r ≠ p) (hs : Src W' p A n c K') (hb : But p W W') : Kep w p A n c K' r W' :=
  ⟨hs, h.but.trans hb, hb.row h.res hr⟩
theorem Kep.low {w W W' : World} {p : Nat} {A : Option Addr} {n c K r B : Nat} (h : Kep w p A n c K r W) (hb : Below B W W') (hr : r < B) (hp : p < B) (hw : w.heap.size ≤ B) : Kep w p A n c K r W' :=
  ⟨Src.low h.src hb hp, But.low h.but hb hw, row_low h.res hb hr⟩
theorem Kep.set {w W : World} {p : Nat} {A : Option Addr} {n c K r : Nat} (h : Kep w p A n c K r W) {g : Nat} (hg : g ≠ r) (hw : w.heap.size ≤ g) (hp : p < w.heap.size) (i : Nat) (u : Value) : Kep w p A n c K r (W.setCell ⟨g, i, none⟩ u) :=
  have hb := (Below.refl w.heap.size W).setCell (p := ⟨g, i, none⟩) hw u
  ⟨Src.low h.src hb hp, But.low h.but hb (Nat.le_refl _), RowAt.far h.res hg u⟩
theorem among_new (p : Nat) (A : Option Addr) (n c K : Nat) (hK : K ≤ 999000) (t : TypeId) (cs : Array Value) (m : Nat) (hm : 1 < m ∧ m ≤ 100) (hc : ∀ i, i < m → ∃ v : Int, cs[i]? = some (.int .i64 v)) (w : World) (h : Src w p A n c K) :
    Calls Tryz.prog 47 #[.pointer (some ⟨p, 0, none⟩), .slice (some ⟨w.heap.size, 0, none⟩) m m] (w.alloc (.cells cs t)) (Num p A n c (K + 2) w) := by
  have hp := h.lt
  have b := (Below.refl w.heap.size w).alloc (Nat.le_refl _) (.cells cs t)
  refine (among_any p A n c K hK w.heap.size m m hm _ (h.below b) ⟨by simp, fun i hi => ?_⟩ (by omega)).mono ?_
  · rw [(RowAt.new w t cs).cell]
    exact hc i hi
  · rintro e w' ⟨x, rfl, hs, hb⟩
    exact ⟨x, rfl, hs, (But.of b).trans hb⟩
/-- The end of a function that hands back a bend out of a row of its own. -/
theorem Kep.done {w W : World} {p : Nat} {A : Option Addr} {n c K r : Nat} (h : Kep w p A n c K r W) (hr : w.heap.size ≤ r) (hp : p < w.heap.size) (s : ByteArray) (x y z : Int) :
    RowAt ((((W.setCell ⟨r, 0, none⟩ (.string s)).setCell ⟨r, 1, none⟩ (.int .i64 x)).setCell ⟨r, 2, none⟩ (.int .i64 y)).setCell ⟨r, 3, none⟩ (.int .i64 z)) r 25 #[.string s, .int .i64 x, .int .i64 y, .int .i64 z] ∧
    BendR p A n c K s w (.returned (.agg #[.string s, .int .i64 x, .int .i64 y, .int .i64 z])) ((((W.setCell ⟨r, 0, none⟩ (.string s)).setCell ⟨r, 1, none⟩ (.int .i64 x)).setCell ⟨r, 2, none⟩ (.int .i64 y)).setCell ⟨r, 3, none⟩ (.int .i64 z)) := by
  have hb := set4_below W r (.string s) (.int .i64 x) (.int .i64 y) (.int .i64 z)
  exact ⟨rowSet4 h.res _ _ _ _, x, y, z, rfl, Src.low h.src hb (by omega), But.low h.but hb hr⟩
set_option maxHeartbeats 1000000 in
theorem drawOne_any (p : Nat) (A : Option Addr) (n c K : Nat) (hK : K ≤ 900000) (s : ByteArray) (w : World) (h : Src w p A n c K) :
    Calls Tryz.prog 19 #[.pointer (some ⟨p, 0, none⟩), .string s] w (BendR p A n c (K + 6) s w) := by
  have hp := h.lt
  have hrp : w.heap.size ≠ p := by omega
  have b0 := (Below.refl w.heap.size w).alloc (Nat.le_refl _) (.cells #[.string ⟨#[]⟩, .int .i64 0, .int .i64 0, .int .i64 0] 25)
  have HK0 : Hid (Kep w p A n c K w.heap.size (w.alloc (.cells #[.string ⟨#[]⟩, .int .i64 0, .int .i64 0, .int .i64 0] 25))) := ⟨h.below b0, But.of b0, RowAt.new w _ _⟩
  have HP1 := Lib.hid (fun W (h : Src W p A n c K) => pick_any p A n c K (by omega) 800 (by omega) W h)
  have HP2 := Lib.hid (fun W (h : Src W p A n c (K + 2)) => pick_any p A n c (K + 2) (by omega) 400 (by omega) W h)
  have HP3 := Lib.hid (fun W (h : Src W p A n c (K + 2 + 2)) => pick_any p A n c (K + 2 + 2) (by omega) 25 (by omega) W h)
  clear h b0
  go_enter Tryz.func19, Tryz.ntmps19
  go_wp2_with fail
  generalize w.alloc (.cells #[.string ⟨#[]⟩, .int .i64 0, .int .i64 0, .int .i64 0] 25) = W0 at *
  refine (HP1.out _ HK0.out.src).mono ?_
  rintro e w1 ⟨x, x0, x1, rfl, hs1, hb1, hz1⟩
  have HK1 := Lib.hid (HK0.out.choice hrp hs1 hb1)
  clear hs1 hb1 hz1 HP1
  obtain ⟨X, hX⟩ : ∃ X, 10000 + 500 * x = X := ⟨_, rfl⟩
  have hg1 : w.heap.size < w1.heap.size := HK1.out.res.lt
  have b2 := (Below.refl w1.heap.size w1).alloc (Nat.le_refl _) (.cells #[.string s, .int .i64 X, .int .i64 0, .int .i64 0] 25)
  have HK2 := Lib.hid (HK1.out.low b2 hg1 (by omega) (by omega))
  have HR2 := Lib.hid (RowAt.new w1 25 #[.string s, .int .i64 X, .int .i64 0, .int .i64 0])
  clear b2
  go_wp2_with fail
  generalize w1.alloc (.cells #[.string s, .int .i64 X, .int .i64 0, .int .i64 0] 25) = W2 at *
  refine (HP2.out _ HK2.out.src).mono ?_
  rintro e w3 ⟨y, y0, y1, rfl, hs3, hb3, hz3⟩
  have HK3 := Lib.hid (HK2.out.choice hrp hs3 hb3)
  have HR3 := Lib.hid (hb3.row HR2.out (by omega))
  clear hs3 hb3 hz3 HP2 hX
  obtain ⟨Y, hY⟩ : ∃ Y, 1000 + 250 * y = Y := ⟨_, rfl⟩
  have b4 := (Below.refl w1.heap.size w3).setCell (p := ⟨w1.heap.size, 2, none⟩) (Nat.le_refl _) (.int .i64 Y)
  have HK4 := Lib.hid (HK3.out.low b4 hg1 (by omega) (by omega))
  have HR4 : Hid (RowAt (w3.setCell ⟨w1.heap.size, 2, none⟩ (.int .i64 Y)) w1.heap.size 25 #[.string s, .int .i64 X, .int .i64 Y, .int .i64 0]) := HR3.out.store 2 (.int .i64 Y)
  obtain ⟨a0, a1, a2, a3, a4, a5, a6, a7⟩ := row4 HR3.out
  clear b4
  go_wp2_with fail
  generalize w3.setCell ⟨w1.heap.size, 2, none⟩ (.int .i64 Y) = W4 at *
  refine (HP3.out _ HK4.out.src).mono ?_
  rintro e w5 ⟨z, z0, z1, rfl, hs5, hb5, hz5⟩
  have HK5 := Lib.hid (HK4.out.choice hrp hs5 hb5)
  have HR5 := Lib.hid (hb5.row HR4.out (by omega))
  clear hs5 hb5 hz5 HP3 hY a0 a1 a2 a3 a4 a5 a6 a7
  obtain ⟨Z, hZ⟩ : ∃ Z, 5 * z = Z := ⟨_, rfl⟩
  have b6 := (Below.refl w1.heap.size w5).setCell (p := ⟨w1.heap.size, 3, none⟩) (Nat.le_refl _) (.int .i64 Z)
  have HK6 := Lib.hid (HK5.out.low b6 hg1 (by omega) (by omega))
  have HR6 : Hid (RowAt (w5.setCell ⟨w1.heap.size, 3, none⟩ (.int .i64 Z)) w1.heap.size 25 #[.string s, .int .i64 X, .int .i64 Y, .int .i64 Z]) := HR5.out.store 3 (.int .i64 Z)
  obtain ⟨a0, a1, a2, a3, a4, a5, a6, a7⟩ := row4 HR5.out
  have HF := Lib.hid (HK6.out.done (Nat.le_refl _) hp s X Y Z)
  obtain ⟨r0, r1, r2, r3, r4, r5, r6, r7⟩ := row4 HK5.out.res
  clear b6
  go_wp2_with fail
  obtain ⟨f1, f2⟩ := HF.out
  generalize (((((w5.setCell ⟨w1.heap.size, 3, none⟩ (.int .i64 Z)).setCell ⟨w.heap.size, 0, none⟩ (.string s)).setCell ⟨w.heap.size, 1, none⟩ (.int .i64 X)).setCell ⟨w.heap.size, 2, none⟩ (.int .i64 Y)).setCell ⟨w.heap.size, 3, none⟩ (.int .i64 Z)) = W9 at f1 f2 ⊢
  obtain ⟨t0, t1, t2, t3, _⟩ := row4 f1
  exact bodyPost_ret (v := .agg #[.string s, .int .i64 X, .int .i64 Y, .int .i64 Z]) (by simp [results, Tryz.results19, go_sem, t0, t1, t2, t3]) rfl f2
theorem bent_any (p : Nat) (A : Option Addr) (n c K : Nat) (hK : K ≤ 900000) (s : ByteArray) (x y z : Int) (w : World) (h : Src w p A n c K) :
    Calls Tryz.prog 18 #[.pointer (some ⟨p, 0, none⟩), .agg #[.string s, .int .i64 x, .int .i64 y, .int .i64 z]] w (BendR p A n c (K + 4) s w) := by
  have hp := h.lt
  have hrp : w.heap.size + 1 ≠ p := by omega
  have hbp : w.heap.size ≠ p := by omega
  have b0 := (Below.refl w.heap.size w).alloc (Nat.le_refl _) (.cells #[.string s, .int .i64 x, .int .i64 y, .int .i64 z] 25)
  have hz0 : (w.alloc (.cells #[.string s, .int .i64 x, .int .i64 y, .int .i64 z] 25)).heap.size = w.heap.size + 1 := by simp
  have b1 := (Below.refl (w.alloc (.cells #[.string s, .int .i64 x, .int .i64 y, .int .i64 z] 25)).heap.size (w.alloc (.cells #[.string s, .int .i64 x, .int .i64 y, .int .i64 z] 25))).alloc (Nat.le_refl _) (.cells #[.string ⟨#[]⟩, .int .i64 0, .int .i64 0, .int .i64 0] 25)
  have hr := RowAt.new (w.alloc (.cells #[.string s, .int .i64 x, .int .i64 y, .int .i64 z] 25)) 25 #[.string ⟨#[]⟩, .int .i64 0, .int .i64 0, .int .i64 0]
  rw [hz0] at hr b1
  have b2 := b0.trans (b1.mono (by omega))
  have HK0 : Hid (Kep w p A n c K (w.heap.size + 1) ((w.alloc (.cells #[.string s, .int .i64 x, .int .i64 y, .int .i64 z] 25)).alloc (.cells #[.string ⟨#[]⟩, .int .i64 0, .int .i64 0, .int .i64 0] 25))) := ⟨h.below b2, But.of b2, hr⟩
  have HR0 := Lib.hid (row_low (RowAt.new w 25 #[.string s, .int .i64 x, .int .i64 y, .int .i64 z]) b1 (by omega))
  have HP1 := Lib.hid (fun W (h : Src W p A n c K) => pick_any p A n c K (by omega) 20 (by omega) W h)
  clear h b0 b1 b2 hr hz0
  go_enter Tryz.func18, Tryz.ntmps18
  go_wp2_with fail
  generalize (w.alloc (.cells #[.string s, .int .i64 x, .int .i64 y, .int .i64 z] 25)).alloc (.cells #[.string ⟨#[]⟩, .int .i64 0, .int .i64 0, .int .i64 0] 25) = W0 at *
  refine (HP1.out _ HK0.out.src).mono ?_
  rintro e w1 ⟨v, v0, v1, rfl, hs1, hb1, hz1⟩
  have HK1 := Lib.hid (HK0.out.choice hrp hs1 hb1)
  have HR1 := Lib.hid (hb1.row HR0.out hbp)
  clear hs1 hb1 hz1 HP1
  obtain ⟨a0, a1, a2, a3, a4, a5, a6, a7⟩ := row4 HR1.out
  obtain ⟨r0, r1, r2, r3, r4, r5, r6, r7⟩ := row4 HK1.out.res
  have hrs := HK1.out.res.lt
  by_cases h0 : v = 0
  · subst h0
    go_wp2_with fail
    refine (among_new p A n c (K + 2) (by omega) 2 #[.int .i64 9999, .int .i64 10000, .int .i64 10000000, .int .i64 10000001] 4 (by omega) (fun i hi => by rcases i with _|_|_|_|i <;> first | exact ⟨_, rfl⟩ | omega) w1 HK1.out.src).mono ?_
    rintro e w2 ⟨V, rfl, hs2, hb2⟩
    have HK2 := Lib.hid ((HK1.out.choice hrp hs2 hb2).set (g := w.heap.size) (by omega) (Nat.le_refl _) hp 1 (.int .i64 V))
    have HR2 := Lib.hid (hb2.row HR1.out hbp)
    have HR3 : Hid (RowAt (w2.setCell ⟨w.heap.size, 1, none⟩ (.int .i64 V)) w.heap.size 25 #[.string s, .int .i64 V, .int .i64 y, .int .i64 z]) := HR2.out.store 1 (.int .i64 V)
    have HF := Lib.hid (HK2.out.done (Nat.le_succ _) hp s V y z)
    have hk := (HK1.out.choice hrp hs2 hb2).res
    clear hs2 hb2 a0 a1 a2 a3 a4 a5 a6 a7 r0 r1 r2 r3 r4 r5 r6 r7
    obtain ⟨a0, a1, a2, a3, a4, a5, a6, a7⟩ := row4 HR2.out
    obtain ⟨r0, r1, r2, r3, r4, r5, r6, r7⟩ := row4 hk
    clear hk
    go_wp2_with fail
    obtain ⟨f1, f2⟩ := HF.out
    generalize (((((w2.setCell ⟨w.heap.size, 1, none⟩ (.int .i64 V)).setCell ⟨(w.heap.size + 1), 0, none⟩ (.string s)).setCell ⟨(w.heap.size + 1), 1, none⟩ (.int .i64 V)).setCell ⟨(w.heap.size + 1), 2, none⟩ (.int .i64 y)).setCell ⟨(w.heap.size + 1), 3, none⟩ (.int .i64 z)) = W9 at f1 f2 ⊢
    obtain ⟨t0, t1, t2, t3, _⟩ := row4 f1
    exact bodyPost_ret (v := .agg #[.string s, .int .i64 V, .int .i64 y, .int .i64 z]) (by simp [results, Tryz.results18, go_sem, t0, t1, t2, t3]) rfl f2
  · by_cases h1 : v = 1
    · subst h1
      clear h0
      go_wp2_with fail
      refine (among_new p A n c (K + 2) (by omega) 2 #[.int .i64 999, .int .i64 1000, .int .i64 1000000, .int .i64 1000001] 4 (by omega) (fun i hi => by rcases i with _|_|_|_|i <;> first | exact ⟨_, rfl⟩ | omega) w1 HK1.out.src).mono ?_
      rintro e w2 ⟨V, rfl, hs2, hb2⟩
      have HK2 := Lib.hid ((HK1.out.choice hrp hs2 hb2).set (g := w.heap.size) (by omega) (Nat.le_refl _) hp 2 (.int .i64 V))
      have HR2 := Lib.hid (hb2.row HR1.out hbp)
      have HR3 : Hid (RowAt (w2.setCell ⟨w.heap.size, 2, none⟩ (.int .i64 V)) w.heap.size 25 #[.string s, .int .i64 x, .int .i64 V, .int .i64 z]) := HR2.out.store 2 (.int .i64 V)
      have HF := Lib.hid (HK2.out.done (Nat.le_succ _) hp s x V z)
      have hk := (HK1.out.choice hrp hs2 hb2).res
      clear hs2 hb2 a0 a1 a2 a3 a4 a5 a6 a7 r0 r1 r2 r3 r4 r5 r6 r7
      obtain ⟨a0, a1, a2, a3, a4, a5, a6, a7⟩ := row4 HR2.out
      obtain ⟨r0, r1, r2, r3, r4, r5, r6, r7⟩ := row4 hk
      clear hk
      go_wp2_with fail
      obtain ⟨f1, f2⟩ := HF.out
      generalize (((((w2.setCell ⟨w.heap.size, 2, none⟩ (.int .i64 V)).setCell ⟨(w.heap.size + 1), 0, none⟩ (.string s)).setCell ⟨(w.heap.size + 1), 1, none⟩ (.int .i64 x)).setCell ⟨(w.heap.size + 1), 2, none⟩ (.int .i64 V)).setCell ⟨(w.heap.size + 1), 3, none⟩ (.int .i64 z)) = W9 at f1 f2 ⊢
      obtain ⟨t0, t1, t2, t3, _⟩ := row4 f1
      exact bodyPost_ret (v := .agg #[.string s, .int .i64 x, .int .i64 V, .int .i64 z]) (by simp [results, Tryz.results18, go_sem, t0, t1, t2, t3]) rfl f2
    · by_cases h2 : v = 2
      · subst h2
        clear h0 h1
        go_wp2_with fail
        refine (among_new p A n c (K + 2) (by omega) 2 #[.int .i64 (-1), .int .i64 0, .int .i64 200, .int .i64 201] 4 (by omega) (fun i hi => by rcases i with _|_|_|_|i <;> first | exact ⟨_, rfl⟩ | omega) w1 HK1.out.src).mono ?_
        rintro e w2 ⟨V, rfl, hs2, hb2⟩
        have HK2 := Lib.hid ((HK1.out.choice hrp hs2 hb2).set (g := w.heap.size) (by omega) (Nat.le_refl _) hp 3 (.int .i64 V))
        have HR2 := Lib.hid (hb2.row HR1.out hbp)
        have HR3 : Hid (RowAt (w2.setCell ⟨w.heap.size, 3, none⟩ (.int .i64 V)) w.heap.size 25 #[.string s, .int .i64 x, .int .i64 y, .int .i64 V]) := HR2.out.store 3 (.int .i64 V)
        have HF := Lib.hid (HK2.out.done (Nat.le_succ _) hp s x y V)
        have hk := (HK1.out.choice hrp hs2 hb2).res
        clear hs2 hb2 a0 a1 a2 a3 a4 a5 a6 a7 r0 r1 r2 r3 r4 r5 r6 r7
        obtain ⟨a0, a1, a2, a3, a4, a5, a6, a7⟩ := row4 HR2.out
        obtain ⟨r0, r1, r2, r3, r4, r5, r6, r7⟩ := row4 hk
        clear hk
        go_wp2_with fail
        obtain ⟨f1, f2⟩ := HF.out
        generalize (((((w2.setCell ⟨w.heap.size, 3, none⟩ (.int .i64 V)).setCell ⟨(w.heap.size + 1), 0, none⟩ (.string s)).setCell ⟨(w.heap.size + 1), 1, none⟩ (.int .i64 x)).setCell ⟨(w.heap.size + 1), 2, none⟩ (.int .i64 y)).setCell ⟨(w.heap.size + 1), 3, none⟩ (.int .i64 V)) = W9 at f1 f2 ⊢
        obtain ⟨t0, t1, t2, t3, _⟩ := row4 f1
        exact bodyPost_ret (v := .agg #[.string s, .int .i64 x, .int .i64 y, .int .i64 V]) (by simp [results, Tryz.results18, go_sem, t0, t1, t2, t3]) rfl f2
      · have e0 : (v == 0) = false := by rw [beq_eq_false_iff_ne]; exact h0
        have e1 : (v == 1) = false := by rw [beq_eq_false_iff_ne]; exact h1
        have e2 : (v == 2) = false := by rw [beq_eq_false_iff_ne]; exact h2
        have HK2 : Hid (Kep w p A n c (K + 4) (w.heap.size + 1) w1) := ⟨HK1.out.src.more (by omega), HK1.out.but, HK1.out.res⟩
        have HF := Lib.hid (HK2.out.done (Nat.le_succ _) hp s x y z)
        clear h0 h1 h2
        go_wp2_with fail
        obtain ⟨f1, f2⟩ := HF.out
        generalize ((((w1.setCell ⟨(w.heap.size + 1), 0, none⟩ (.string s)).setCell ⟨(w.heap.size + 1), 1, none⟩ (.int .i64 x)).setCell ⟨(w.heap.size + 1), 2, none⟩ (.int .i64 y)).setCell ⟨(w.heap.size + 1), 3, none⟩ (.int .i64 z)) = W9 at f1 f2 ⊢
        obtain ⟨t0, t1, t2, t3, _⟩ := row4 f1
        exact bodyPost_ret (v := .agg #[.string s, .int .i64 x, .int .i64 y, .int .i64 z]) (by simp [results, Tryz.results18, go_sem, t0, t1, t2, t3]) rfl f2
end Go.Proofs.YtlknncmnphbpkaaGreatDoor.BdrA
