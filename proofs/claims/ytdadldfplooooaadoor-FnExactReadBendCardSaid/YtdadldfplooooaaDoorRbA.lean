/- The walks of bends read from their texts, program and reference. -/
import Derived.Test.YtdadldfplooooaaDoorTxtI
import Derived.Test.YtdadldfplooooaaDoorTxtZ
import Derived.Deep.RegionHeld3
namespace Go.Proofs.YtdadldfplooooaaDoor.RbA
set_option maxRecDepth 100000
open Go.RowKit Go.Proofs.YtdadldfplooooaaDoor.Plain Go.Proofs.YtdadldfplooooaaDoor.TxtA Go.Proofs.YtdadldfplooooaaDoor.TxtB Go.Proofs.YtdadldfplooooaaDoor.TxtG Go.Proofs.YtdadldfplooooaaDoor.TxtH Go.Proofs.YtdadldfplooooaaDoor.TxtN Go.Proofs.YtdadldfplooooaaDoor.TxtS Go.Proofs.YtdadldfplooooaaDoor.TxtP Go.Proofs.YtdadldfplooooaaDoor.TxtQ Go.Proofs.YtdadldfplooooaaDoor.TxtR Go.Proofs.YtdadldfplooooaaDoor.TxtT Go.Proofs.YtdadldfplooooaaDoor.TxtX Go.Proofs.YtdadldfplooooaaDoor.TxtY Go.Proofs.YtdadldfplooooaaDoor.TxtZ Go.Proofs.YtdadldfplooooaaDoor.TxtI Go.Proofs.YtdadldfplooooaaDoor.WalkA Go.Proofs.YtdadldfplooooaaDoor.WalkB Go.Proofs.YtdadldfplooooaaDoor.WalkC Go.Proofs.YtdadldfplooooaaDoor.WalkF Go.Proofs.YtdadldfplooooaaDoor.WalkH Go.Proofs.YtdadldfplooooaaDoor.BndA Go.Proofs.YtdadldfplooooaaDoor.BLaw

/-- The fields of a bend read; the zero bend if there is none. -/
def rbId (s : ByteArray) : ByteArray := if rbB s = true then cutA s 32 else ⟨#[]⟩
def rbR (s : ByteArray) : Int := if rbB s = true then (bend3 (rbN s)).1 else 0
def rbLn (s : ByteArray) : Int := if rbB s = true then (bend3 (rbN s)).2.1 else 0
def rbC (s : ByteArray) : Int := if rbB s = true then (bend3 (rbN s)).2.2 else 0
def RB (s : ByteArray) (w : World) (e : Ending) (w' : World) : Prop := e = .returned (.tuple #[.agg #[.string (rbId s), .int .i64 (rbR s), .int .i64 (rbLn s), .int .i64 (rbC s)], .bool (rbB s)]) ∧ Below w.heap.size w w'
theorem RB.no {s : ByteArray} {w w' : World} (h : rbB s = false) (hb : Below w.heap.size w w') : RB s w (.returned (.tuple #[.agg #[.string ⟨#[]⟩, .int .i64 0, .int .i64 0, .int .i64 0], .bool false])) w' := by
  unfold RB rbId rbR rbLn rbC
  rw [h]
  exact ⟨rfl, hb⟩
theorem RB.yes {s : ByteArray} {w w' : World} (h : rbB s = true) (hb : Below w.heap.size w w') : RB s w (.returned (.tuple #[.agg #[.string (cutA s 32), .int .i64 (bend3 (rbN s)).1, .int .i64 (bend3 (rbN s)).2.1, .int .i64 (bend3 (rbN s)).2.2], .bool true])) w' := by
  unfold RB rbId rbR rbLn rbC
  rw [h]
  exact ⟨rfl, hb⟩
def NN (s : ByteArray) (w : World) (e : Ending) (w' : World) : Prop := ∃ v, e = .returned (.tuple #[.string (cutA s 32), v, .bool (decide ((rbN s).length = 3))]) ∧ OwnI w' w.heap.size v (rbN s) ∧ Below w.heap.size w w'
theorem drew_B (w : World) (m : Nat) : Below w.heap.size w (w.drewN m) := ⟨rfl, rfl, rfl, Nat.le_refl _, fun _ _ => rfl⟩
theorem rowAt_below {W W' : World} {g : Nat} {t : TypeId} {cs : Array Value} (h : RowAt W g t cs) (hb : Below W.heap.size W W') : RowAt W' g t cs := (hb.block g h.lt).trans h
theorem keep3 {g : Nat} {W wc w2 : World} {v0 v1 v2 : Value} (hp : g < W.heap.size) (h0 : wc.cell? ⟨g, 0, none⟩ = some v0) (h1 : wc.cell? ⟨g, 1, none⟩ = some v1) (h2 : wc.cell? ⟨g, 2, none⟩ = some v2) (hb : Below W.heap.size W wc) (h : Below wc.heap.size wc w2) :
    w2.cell? ⟨g, 0, none⟩ = some v0 ∧ w2.cell? ⟨g, 1, none⟩ = some v1 ∧ w2.cell? ⟨g, 2, none⟩ = some v2 ∧ Below W.heap.size W w2 :=
  have hp' := Nat.lt_of_lt_of_le hp hb.size
  ⟨(h.cell (p := ⟨g, 0, none⟩) hp').trans h0, (h.cell (p := ⟨g, 1, none⟩) hp').trans h1, (h.cell (p := ⟨g, 2, none⟩) hp').trans h2, hb.trans (h.mono hb.size)⟩
theorem row4 {W : World} {g : Nat} {t : TypeId} {a b c d : Value} (h : RowAt W g t #[a, b, c, d]) :
    W.cell? ⟨g, 0, none⟩ = some a ∧ W.cell? ⟨g, 1, none⟩ = some b ∧ W.cell? ⟨g, 2, none⟩ = some c ∧ W.cell? ⟨g, 3, none⟩ = some d ∧ W.frozen? ⟨g, 0, none⟩ = false ∧ W.frozen? ⟨g, 1, none⟩ = false ∧ W.frozen? ⟨g, 2, none⟩ = false ∧ W.frozen? ⟨g, 3, none⟩ = false :=
  ⟨h.cell 0, h.cell 1, h.cell 2, h.cell 3, h.frozen 0, h.frozen 1, h.frozen 2, h.frozen 3⟩
theorem rowSet4 {W : World} {g : Nat} {t : TypeId} {a0 b0 c0 d0 : Value} (h : RowAt W g t #[a0, b0, c0, d0]) (a b c d : Value) :
    RowAt ((((W.setCell ⟨g, 0, none⟩ a).setCell ⟨g, 1, none⟩ b).setCell ⟨g, 2, none⟩ c).setCell ⟨g, 3, none⟩ d) g t #[a, b, c, d] := (((h.store 0 a).store 1 b).store 2 c).store 3 d
theorem readNamed_any (s : ByteArray) (hs : s.size ≤ 1048576) (w : World) (hsh : Shp w) (hE : Env w) : Calls Tryd.prog 51 #[.string s, .int .i64 3] w (NN s w) := by
  have HC : Hid (∃ b, Calls Tryd.prog 53 #[.string s, .string ⟨#[32]⟩] w fun e w' => e = .returned (.tuple #[.string (cutA s 32), .string (cutZ s 32), .bool b]) ∧ ∃ n, w' = w.drewN n) := ⟨_, Tryd.strings_Cut_shaped s ⟨#[32]⟩ w hsh (by omega)⟩
  have hz := (cut_len s 32).2
  have HR := Lib.hid (fun n => implReadList_any (cutZ s 32) (by omega) (w.drewN n) (hsh.below (drew_B w n)) (hE.below (drew_B w n)))
  have HL := Lib.hid (show rbN s = rdL (cutZ s 32) from rfl)
  have HLE := Lib.hid (rdL_le (cutZ s 32))
  unfold RL at HR
  unfold NN
  rw [HL.out]
  generalize cutZ s 32 = z at *
  generalize cutA s 32 = a at *
  generalize rdL z = l at *
  generalize rlB z = lb at *
  obtain ⟨b, HC⟩ := HC
  have HC := Lib.hid HC
  clear hz hs hsh hE
  by_cases h3 : l.length = 3
  · have HD := Lib.hid (decide_eq_true h3)
    have H3 := Lib.hid h3
    clear h3
    go_enter Tryd.func51, Tryd.ntmps51
    go_wp2_with fail
    refine HC.out.mono ?_
    rintro e w1 ⟨rfl, n, rfl⟩
    go_wp2_with fail
    refine (HR.out n).mono ?_
    rintro e w2 ⟨v, rfl, ho, hb⟩
    obtain ⟨A, c, rfl⟩ := OwnI.shape' H3.out ho
    go_wp2_with fail
    go_ret3
    exact ⟨.slice A 3 c, by rw [HD.out]; rfl, ho, (drew_B w n).trans hb⟩
  · have HD := Lib.hid (decide_eq_false h3)
    obtain ⟨k, hk⟩ : ∃ k, l.length = k := ⟨_, rfl⟩
    have HK := Lib.hid hk
    have hk64 := HLE.out
    rw [hk] at h3 hk64
    have hne : ((k : Int) == 3) = false := by rw [beq_eq_false_iff_ne]; omega
    clear hk h3
    go_enter Tryd.func51, Tryd.ntmps51
    go_wp2_with fail
    refine HC.out.mono ?_
    rintro e w1 ⟨rfl, n, rfl⟩
    go_wp2_with fail
    refine (HR.out n).mono ?_
    rintro e w2 ⟨v, rfl, ho, hb⟩
    obtain ⟨A, c, rfl⟩ := OwnI.shape' HK.out ho
    go_wp2_with fail
    go_ret3
    exact ⟨.slice A k c, by rw [HD.out]; rfl, ho, (drew_B w n).trans hb⟩


set_option maxHeartbeats 1000000 in
theorem implReadBend_any (s : ByteArray) (hs : s.size ≤ 1048576) (w : World) (hsh : Shp w) (hE : Env w) : Calls Tryd.prog 26 #[.string s] w (RB s w) := by
  have HN := Lib.hid (fun W (hb : Below w.heap.size w W) => readNamed_any s hs W (hsh.below hb) (hE.below hb))
  unfold NN at HN
  have HB0 := Lib.hid (below_alloc w (.cells #[.string ⟨#[]⟩, .int .i64 0, .int .i64 0, .int .i64 0] 26))
  by_cases h3 : (rbN s).length = 3
  · rw [decide_eq_true h3] at HN
    have HT := Lib.hid (fun W (hb : Below w.heap.size w W) => implBendText_any (cutA s 32) (bend3 (rbN s)).1 (bend3 (rbN s)).2.1 (bend3 (rbN s)).2.2 (by have := (cut_len s 32).1; omega) W (hE.tab.below hb))
    have HX := Lib.hid (three h3)
    have HP := Lib.hid (show rbP s = bendP (cutA s 32) (bend3 (rbN s)).1 (bend3 (rbN s)).2.1 (bend3 (rbN s)).2.2 from rfl)
    have HYES := Lib.hid (fun h W' hb => RB.yes (s := s) (w := w) (w' := W') h hb)
    have HNO := Lib.hid (fun h W' hb => RB.no (s := s) (w := w) (w' := W') h hb)
    have HBB := Lib.hid (show rbB s = (decide ((rbN s).length = 3) && decide (rbP s = s)) from rfl)
    rw [← HP.out] at HT
    have H3 := Lib.hid h3
    clear hs hsh hE
    generalize cutA s 32 = a at *
    generalize (bend3 (rbN s)).1 = x at *
    generalize (bend3 (rbN s)).2.1 = y at *
    generalize (bend3 (rbN s)).2.2 = z at *
    generalize rbP s = T at *
    have HN2 : Hid (∀ W, Below w.heap.size w W → Calls Tryd.prog 51 #[.string s, .int .i64 3] W fun e w' => ∃ g c, e = .returned (.tuple #[.string a, .slice (some ⟨g, 0, none⟩) 3 c, .bool true]) ∧ g < w'.heap.size ∧ w'.cell? ⟨g, 0, none⟩ = some (.int .i64 x) ∧ w'.cell? ⟨g, 1, none⟩ = some (.int .i64 y) ∧ w'.cell? ⟨g, 2, none⟩ = some (.int .i64 z) ∧ Below W.heap.size W w') := fun W hW => (HN.out W hW).mono fun e w' ⟨v, he, ho, hb⟩ => by
      obtain ⟨g, cap, rfl, _, hg, hc⟩ := ho.form (by omega)
      have c0 := hc 0 (by omega)
      have c1 := hc 1 (by omega)
      have c2 := hc 2 (by omega)
      rw [HX.out] at c0 c1 c2
      exact ⟨g, cap, by rw [he, h3], hg, c0, c1, c2, hb⟩
    clear HN
    by_cases ht : T = s
    · have HR := Lib.hid (fun W' hb => HYES.out (by rw [HBB.out, decide_eq_true h3, decide_eq_true ht]; rfl) W' hb)
      rw [ht] at HT
      clear h3 ht
      go_enter Tryd.func26, Tryd.ntmps26
      go_wp2_with fail
      have HROW := Lib.hid (RowAt.new w 26 #[.string ⟨#[]⟩, .int .i64 0, .int .i64 0, .int .i64 0])
      generalize w.alloc (.cells #[.string ⟨#[]⟩, .int .i64 0, .int .i64 0, .int .i64 0] 26) = W0 at *
      refine (HN2.out _ HB0.out).mono ?_
      rintro e w1 ⟨g, cp, rfl, hg, c0, c1, c2, hb1⟩
      have b1 := HB0.out.trans (hb1.mono HB0.out.size)
      have HROW1 := Lib.hid (rowAt_below HROW.out hb1)
      have bb := Below.refl w1.heap.size w1
      go_wp2_with fail
      go_region_held3 (fun w' => w'.cell? ⟨g, 0, none⟩ = some (.int .i64 x) ∧ w'.cell? ⟨g, 1, none⟩ = some (.int .i64 y) ∧ w'.cell? ⟨g, 2, none⟩ = some (.int .i64 z) ∧ Below w1.heap.size w1 w')
        (first | exact ⟨c0, c1, c2, bb.drew⟩ | (go_split_ands; exact keep3 hg (by assumption) (by assumption) (by assumption) (by assumption) (below_alloc _ _)) | exact keep3 hg c0 c1 c2 bb (below_alloc w1 _).drew)
        (fail)
      obtain ⟨r0, r1, r2, r3, r4, _⟩ := boxed4 w1 26 (.string a) (.int .i64 x) (.int .i64 y) (.int .i64 z)
      have HROW2 := Lib.hid (rowAt_below HROW1.out r4.drew)
      have hs2 : w1.heap.size < (w1.alloc (.cells #[.string a, .int .i64 x, .int .i64 y, .int .i64 z] 26)).drew.heap.size := by simp
      have b2 : Below w.heap.size w (w1.alloc (.cells #[.string a, .int .i64 x, .int .i64 y, .int .i64 z] 26)).drew := b1.trans (r4.drew.mono b1.size)
      have r0 : (w1.alloc (.cells #[.string a, .int .i64 x, .int .i64 y, .int .i64 z] 26)).drew.cell? ⟨w1.heap.size, 0, none⟩ = some (.string a) := r0
      have r1 : (w1.alloc (.cells #[.string a, .int .i64 x, .int .i64 y, .int .i64 z] 26)).drew.cell? ⟨w1.heap.size, 1, none⟩ = some (.int .i64 x) := r1
      have r2 : (w1.alloc (.cells #[.string a, .int .i64 x, .int .i64 y, .int .i64 z] 26)).drew.cell? ⟨w1.heap.size, 2, none⟩ = some (.int .i64 y) := r2
      have r3 : (w1.alloc (.cells #[.string a, .int .i64 x, .int .i64 y, .int .i64 z] 26)).drew.cell? ⟨w1.heap.size, 3, none⟩ = some (.int .i64 z) := r3
      generalize (w1.alloc (.cells #[.string a, .int .i64 x, .int .i64 y, .int .i64 z] 26)).drew = w2 at *
      go_wp2_with fail
      refine (HT.out _ b2).mono ?_
      rintro e w3 ⟨rfl, hb3⟩
      have z3 := keepB hs2 r0 r1 r2 r3 (Below.refl _ _) hb3
      obtain ⟨s0, s1, s2, s3, _⟩ := z3
      have HROW3 := rowAt_below HROW2.out hb3
      have b3 := b2.trans (hb3.mono b2.size)
      have HSET := Lib.hid (rowSet4 HROW3 (.string a) (.int .i64 x) (.int .i64 y) (.int .i64 z))
      have HB3 := Lib.hid b3
      obtain ⟨t0, t1, t2, t3, f0, f1, f2, f3⟩ := row4 HROW3
      clear r0 r1 r2 r3 r4 HROW3 b3
      go_wp2_with fail
      obtain ⟨w4, hw4⟩ : ∃ w4, w4 = ((((w3.setCell ⟨w.heap.size, 0, none⟩ (.string a)).setCell ⟨w.heap.size, 1, none⟩ (.int .i64 x)).setCell ⟨w.heap.size, 2, none⟩ (.int .i64 y)).setCell ⟨w.heap.size, 3, none⟩ (.int .i64 z)) := ⟨_, rfl⟩
      have HFIN := HR.out _ (show Below w.heap.size w w4 by rw [hw4]; exact ((((HB3.out.setCell (Nat.le_refl _) _).setCell (Nat.le_refl _) _).setCell (Nat.le_refl _) _).setCell (Nat.le_refl _) _))
      have HROWF := HSET.out
      rw [← hw4] at HROWF ⊢
      clear hw4
      obtain ⟨y0, y1, y2, y3, _⟩ := row4 HROWF
      exact bodyPost_ret (v := .tuple #[.agg #[.string a, .int .i64 x, .int .i64 y, .int .i64 z], .bool true]) (by simp [results, Tryd.results26, go_sem, y0, y1, y2, y3]) rfl HFIN
    · have HR := Lib.hid (fun W' hb => HNO.out (by rw [HBB.out, decide_eq_false ht, Bool.and_false]) W' hb)
      have hne := list_ne ht
      clear h3 ht
      go_enter Tryd.func26, Tryd.ntmps26
      go_wp2_with fail
      have HROW := Lib.hid (RowAt.new w 26 #[.string ⟨#[]⟩, .int .i64 0, .int .i64 0, .int .i64 0])
      generalize w.alloc (.cells #[.string ⟨#[]⟩, .int .i64 0, .int .i64 0, .int .i64 0] 26) = W0 at *
      refine (HN2.out _ HB0.out).mono ?_
      rintro e w1 ⟨g, cp, rfl, hg, c0, c1, c2, hb1⟩
      have b1 := HB0.out.trans (hb1.mono HB0.out.size)
      have HROW1 := Lib.hid (rowAt_below HROW.out hb1)
      have bb := Below.refl w1.heap.size w1
      go_wp2_with fail
      go_region_held3 (fun w' => w'.cell? ⟨g, 0, none⟩ = some (.int .i64 x) ∧ w'.cell? ⟨g, 1, none⟩ = some (.int .i64 y) ∧ w'.cell? ⟨g, 2, none⟩ = some (.int .i64 z) ∧ Below w1.heap.size w1 w')
        (first | exact ⟨c0, c1, c2, bb.drew⟩ | (go_split_ands; exact keep3 hg (by assumption) (by assumption) (by assumption) (by assumption) (below_alloc _ _)) | exact keep3 hg c0 c1 c2 bb (below_alloc w1 _).drew)
        (fail)
      obtain ⟨r0, r1, r2, r3, r4, _⟩ := boxed4 w1 26 (.string a) (.int .i64 x) (.int .i64 y) (.int .i64 z)
      have HROW2 := Lib.hid (rowAt_below HROW1.out r4.drew)
      have hs2 : w1.heap.size < (w1.alloc (.cells #[.string a, .int .i64 x, .int .i64 y, .int .i64 z] 26)).drew.heap.size := by simp
      have b2 : Below w.heap.size w (w1.alloc (.cells #[.string a, .int .i64 x, .int .i64 y, .int .i64 z] 26)).drew := b1.trans (r4.drew.mono b1.size)
      have r0 : (w1.alloc (.cells #[.string a, .int .i64 x, .int .i64 y, .int .i64 z] 26)).drew.cell? ⟨w1.heap.size, 0, none⟩ = some (.string a) := r0
      have r1 : (w1.alloc (.cells #[.string a, .int .i64 x, .int .i64 y, .int .i64 z] 26)).drew.cell? ⟨w1.heap.size, 1, none⟩ = some (.int .i64 x) := r1
      have r2 : (w1.alloc (.cells #[.string a, .int .i64 x, .int .i64 y, .int .i64 z] 26)).drew.cell? ⟨w1.heap.size, 2, none⟩ = some (.int .i64 y) := r2
      have r3 : (w1.alloc (.cells #[.string a, .int .i64 x, .int .i64 y, .int .i64 z] 26)).drew.cell? ⟨w1.heap.size, 3, none⟩ = some (.int .i64 z) := r3
      generalize (w1.alloc (.cells #[.string a, .int .i64 x, .int .i64 y, .int .i64 z] 26)).drew = w2 at *
      go_wp2_with fail
      refine (HT.out _ b2).mono ?_
      rintro e w3 ⟨rfl, hb3⟩
      have z3 := keepB hs2 r0 r1 r2 r3 (Below.refl _ _) hb3
      obtain ⟨s0, s1, s2, s3, _⟩ := z3
      have HROW3 := rowAt_below HROW2.out hb3
      have b3 := b2.trans (hb3.mono b2.size)
      have HSET := Lib.hid (rowSet4 HROW3 (.string ⟨#[]⟩) (.int .i64 0) (.int .i64 0) (.int .i64 0))
      have HB3 := Lib.hid b3
      obtain ⟨t0, t1, t2, t3, f0, f1, f2, f3⟩ := row4 HROW3
      clear r0 r1 r2 r3 r4 HROW3 b3
      go_wp2_with fail
      obtain ⟨w4, hw4⟩ : ∃ w4, w4 = ((((w3.setCell ⟨w.heap.size, 0, none⟩ (.string ⟨#[]⟩)).setCell ⟨w.heap.size, 1, none⟩ (.int .i64 0)).setCell ⟨w.heap.size, 2, none⟩ (.int .i64 0)).setCell ⟨w.heap.size, 3, none⟩ (.int .i64 0)) := ⟨_, rfl⟩
      have HFIN := HR.out _ (show Below w.heap.size w w4 by rw [hw4]; exact ((((HB3.out.setCell (Nat.le_refl _) _).setCell (Nat.le_refl _) _).setCell (Nat.le_refl _) _).setCell (Nat.le_refl _) _))
      have HROWF := HSET.out
      rw [← hw4] at HROWF ⊢
      clear hw4
      obtain ⟨y0, y1, y2, y3, _⟩ := row4 HROWF
      exact bodyPost_ret (v := .tuple #[.agg #[.string ⟨#[]⟩, .int .i64 0, .int .i64 0, .int .i64 0], .bool false]) (by simp [results, Tryd.results26, go_sem, y0, y1, y2, y3]) rfl HFIN
  · rw [decide_eq_false h3] at HN
    have HR := Lib.hid (fun W' hb => RB.no (s := s) (w := w) (w' := W') (by unfold rbB; rw [decide_eq_false h3]; rfl) hb)
    clear hs hsh hE h3
    generalize cutA s 32 = a at *
    generalize rbN s = l at *
    go_enter Tryd.func26, Tryd.ntmps26
    go_wp2_with fail
    have HROW := Lib.hid (RowAt.new w 26 #[.string ⟨#[]⟩, .int .i64 0, .int .i64 0, .int .i64 0])
    generalize w.alloc (.cells #[.string ⟨#[]⟩, .int .i64 0, .int .i64 0, .int .i64 0] 26) = W0 at *
    refine (HN.out _ HB0.out).mono ?_
    rintro e w3 ⟨v, rfl, _, hb1⟩
    have b3 := HB0.out.trans (hb1.mono HB0.out.size)
    have HROW3 := rowAt_below HROW.out hb1
    have HSET := Lib.hid (rowSet4 HROW3 (.string ⟨#[]⟩) (.int .i64 0) (.int .i64 0) (.int .i64 0))
    have HB3 := Lib.hid b3
    obtain ⟨t0, t1, t2, t3, f0, f1, f2, f3⟩ := row4 HROW3
    clear HROW3 b3 hb1
    go_wp2_with fail
    obtain ⟨w4, hw4⟩ : ∃ w4, w4 = ((((w3.setCell ⟨w.heap.size, 0, none⟩ (.string ⟨#[]⟩)).setCell ⟨w.heap.size, 1, none⟩ (.int .i64 0)).setCell ⟨w.heap.size, 2, none⟩ (.int .i64 0)).setCell ⟨w.heap.size, 3, none⟩ (.int .i64 0)) := ⟨_, rfl⟩
    have HFIN := HR.out _ (show Below w.heap.size w w4 by rw [hw4]; exact ((((HB3.out.setCell (Nat.le_refl _) _).setCell (Nat.le_refl _) _).setCell (Nat.le_refl _) _).setCell (Nat.le_refl _) _))
    have HROWF := HSET.out
    rw [← hw4] at HROWF ⊢
    clear hw4
    obtain ⟨y0, y1, y2, y3, _⟩ := row4 HROWF
    exact bodyPost_ret (v := .tuple #[.agg #[.string ⟨#[]⟩, .int .i64 0, .int .i64 0, .int .i64 0], .bool false]) (by simp [results, Tryd.results26, go_sem, y0, y1, y2, y3]) rfl HFIN

/-! ### the reference's reading -/
theorem two_parts {x : ByteArray} {c : UInt8} (h : (spl x c).length = 2) : spl x c = [cutA x c, cutZ x c] := by
  match hs : spl x c, h with
  | [p, q], _ =>
    obtain ⟨hd, hx, hy⟩ := two_spl hs
    obtain ⟨c1, c2⟩ := cut_hit hd hx
    rw [c1, c2]
def t3B (s : ByteArray) : Bool := decide ((spl s 32).length = 2) && decide ((rbN s).length = 3)
def t3S (s : ByteArray) : ByteArray := if t3B s = true then cutA s 32 else ⟨#[]⟩
def t3L (s : ByteArray) : List Int := if t3B s = true then rbN s else []
def T3 (s : ByteArray) (w : World) (e : Ending) (w' : World) : Prop := ∃ v, e = .returned (.tuple #[.string (t3S s), v, .bool (t3B s)]) ∧ OwnI w' w.heap.size v (t3L s) ∧ Below w.heap.size w w'
theorem T3.no {s : ByteArray} {w w' : World} (h : t3B s = false) (hb : Below w.heap.size w w') : T3 s w (.returned (.tuple #[.string ⟨#[]⟩, .slice none 0 0, .bool false])) w' := by
  unfold T3 t3S t3L
  rw [h]
  exact ⟨_, rfl, OwnI.none _ _, hb⟩
theorem T3.yes {s : ByteArray} {w w' : World} {v : Value} (h : t3B s = true) (ho : OwnI w' w.heap.size v (rbN s)) (hb : Below w.heap.size w w') : T3 s w (.returned (.tuple #[.string (cutA s 32), v, .bool true])) w' := by
  unfold T3 t3S t3L
  rw [h]
  exact ⟨_, rfl, ho, hb⟩
theorem rl_of_len {z : ByteArray} (h : (rdL z).length = 3) : rlB z = true := by
  unfold rlB
  rw [(TxtX.rdL_yes (s := z) (by omega)).1, Bool.or_true]
theorem l04Three_any (s : ByteArray) (hs : s.size ≤ 1048576) (w : World) : Calls Tryd.prog 79 #[.string s] w (T3 s w) := by
  have HS : Hid (Calls Tryd.prog 47 #[.string s, .int .u8 32] w (NewS w (spl s 32))) := l01Split_any s 32 hs w
  unfold NewS at HS
  have hsl := spl_le s 32
  by_cases h2 : (spl s 32).length = 2
  · have HP := Lib.hid (two_parts h2)
    have HR := Lib.hid (fun W => specReadList_any (cutZ s 32) (by have := (cut_len s 32).2; omega) W)
    unfold RL at HR
    have HL := Lib.hid (show rbN s = rdL (cutZ s 32) from rfl)
    rw [← HL.out] at HR
    have HRL := Lib.hid (fun h => rl_of_len (z := cutZ s 32) h)
    rw [← HL.out] at HRL
    have HLE := Lib.hid (show (rbN s).length ≤ 64 from rdL_le (cutZ s 32))
    have HB3 := Lib.hid (show t3B s = (decide ((spl s 32).length = 2) && decide ((rbN s).length = 3)) from rfl)
    rw [decide_eq_true h2] at HB3
    have HYES := Lib.hid (fun h W' v ho hb => T3.yes (s := s) (w := w) (w' := W') (v := v) h ho hb)
    have HNO := Lib.hid (fun h W' hb => T3.no (s := s) (w := w) (w' := W') h hb)
    rw [HP.out] at HS
    clear h2 hsl
    generalize cutA s 32 = a at *
    generalize cutZ s 32 = z at *
    generalize rlB z = lb at *
    generalize rbN s = l at *
    go_enter Tryd.func79, Tryd.ntmps79
    go_wp2_with fail
    refine HS.out.mono ?_
    rintro e w1 ⟨v1, rfl, ho1, hb1⟩
    obtain ⟨g, cap, rfl, hcap, hg, hcells⟩ := ho1.form (by simp)
    have c0 : w1.cell? ⟨g, 0, none⟩ = some (.string a) := hcells 0 a rfl
    have c1 : w1.cell? ⟨g, 1, none⟩ = some (.string z) := hcells 1 z rfl
    have HB1 := Lib.hid hb1
    have hw1 := hb1.size
    clear hcells ho1 hb1
    have el : ([a, z] : List ByteArray).length = 2 := rfl
    rw [el]
    clear el
    go_wp2_with fail
    refine (HR.out _).mono ?_
    rintro e w2 ⟨v2, rfl, ho2, hb2⟩
    have d0 := (hb2.cell (p := ⟨g, 0, none⟩) hg).trans c0
    have HB2 := Lib.hid (HB1.out.trans (hb2.mono hw1))
    have HO2 := Lib.hid (OwnI.mono ho2 hw1)
    clear hb2 ho2 c0 c1
    by_cases h3 : l.length = 3
    · have HB4 := Lib.hid (HB3.out.trans (by rw [decide_eq_true h3]))
      have hlb := HRL.out h3
      rw [hlb]
      clear hlb
      obtain ⟨A, c, rfl⟩ := OwnI.shape' h3 HO2.out
      clear h3
      go_wp2_with fail
      go_ret3
      exact HYES.out HB4.out _ _ HO2.out HB2.out
    · have HB4 := Lib.hid (HB3.out.trans (by rw [decide_eq_false h3]))
      obtain ⟨k, hk⟩ : ∃ k, l.length = k := ⟨_, rfl⟩
      obtain ⟨A, c, rfl⟩ := OwnI.shape' hk HO2.out
      have hk64 := HLE.out
      rw [hk] at h3 hk64
      have hne : ((k : Int) == 3) = false := by rw [beq_eq_false_iff_ne]; omega
      clear hk h3
      cases lb
      all_goals
        go_wp2_with fail
        go_ret3
        exact HNO.out HB4.out _ HB2.out
  · have HNO := Lib.hid (fun W' hb => T3.no (s := s) (w := w) (w' := W') (by unfold t3B; rw [decide_eq_false h2]; rfl) hb)
    obtain ⟨P, hP⟩ : ∃ P, P = spl s 32 := ⟨_, rfl⟩
    rw [← hP] at HS h2 hsl
    have HP0 := Lib.hid hP
    clear hP
    have hne : ((P.length : Int) == 2) = false := by rw [beq_eq_false_iff_ne]; omega
    go_enter Tryd.func79, Tryd.ntmps79
    go_wp2_with fail
    refine HS.out.mono ?_
    rintro e w1 ⟨v1, rfl, ho1, hb1⟩
    obtain ⟨g, cap, rfl, hcap, hg, hcells⟩ := ho1.form (by rw [HP0.out]; exact spl_pos s 32)
    clear hcells ho1 h2
    go_wp2_with fail
    go_ret3
    exact HNO.out _ hb1
theorem rb_none {s : ByteArray} (h : t3B s = false) : rbB s = false := by
  cases hr : rbB s
  · rfl
  · exfalso
    have h2 := (rb_yes hr).1
    unfold t3B at h
    rw [h2] at h
    unfold rbB at hr
    rw [Bool.and_eq_true] at hr
    rw [hr.1] at h
    cases h
theorem rb_bad {s : ByteArray} (h : bendB (cutA s 32) (bend3 (rbN s)).1 (bend3 (rbN s)).2.1 (bend3 (rbN s)).2.2 = false) : rbB s = false := by
  cases hr : rbB s
  · rfl
  · have := (rb_yes hr).2.2
    rw [h] at this
    cases this
theorem rb_good {s : ByteArray} (h : t3B s = true) (hb : bendB (cutA s 32) (bend3 (rbN s)).1 (bend3 (rbN s)).2.1 (bend3 (rbN s)).2.2 = true) : rbB s = true := by
  unfold t3B at h
  rw [Bool.and_eq_true, decide_eq_true_eq, decide_eq_true_eq] at h
  exact (rb_of (two_parts h.1) (TxtX.rdL_yes (s := cutZ s 32) (by have := h.2; unfold rbN at this; omega)).1 h.2 hb).1

set_option maxHeartbeats 1000000 in
theorem l04Read_any (s : ByteArray) (hs : s.size ≤ 1048576) (w : World) : Calls Tryd.prog 50 #[.string s] w (RB s w) := by
  have HN := Lib.hid (fun W => l04Three_any s hs W)
  unfold T3 at HN
  have HB0 := Lib.hid (below_alloc w (.cells #[.string ⟨#[]⟩, .int .i64 0, .int .i64 0, .int .i64 0] 26))
  cases h3 : t3B s
  · rw [h3] at HN
    have HR := Lib.hid (fun W' hb => RB.no (s := s) (w := w) (w' := W') (rb_none h3) hb)
    have e1 : t3S s = ⟨#[]⟩ := by unfold t3S; rw [h3]; rfl
    rw [e1] at HN
    clear hs h3 e1
    generalize t3L s = l at *
    go_enter Tryd.func50, Tryd.ntmps50
    go_wp2_with fail
    have HROW := Lib.hid (RowAt.new w 26 #[.string ⟨#[]⟩, .int .i64 0, .int .i64 0, .int .i64 0])
    generalize w.alloc (.cells #[.string ⟨#[]⟩, .int .i64 0, .int .i64 0, .int .i64 0] 26) = W0 at *
    refine (HN.out W0).mono ?_
    rintro e w3 ⟨v, rfl, _, hb1⟩
    have b3 := HB0.out.trans (hb1.mono HB0.out.size)
    have HROW3 := rowAt_below HROW.out hb1
    have HSET := Lib.hid (rowSet4 HROW3 (.string ⟨#[]⟩) (.int .i64 0) (.int .i64 0) (.int .i64 0))
    have HB3 := Lib.hid b3
    obtain ⟨t0, t1, t2, t3, f0, f1, f2, f3⟩ := row4 HROW3
    clear HROW3 b3 hb1
    go_wp2_with fail
    obtain ⟨w4, hw4⟩ : ∃ w4, w4 = ((((w3.setCell ⟨w.heap.size, 0, none⟩ (.string ⟨#[]⟩)).setCell ⟨w.heap.size, 1, none⟩ (.int .i64 0)).setCell ⟨w.heap.size, 2, none⟩ (.int .i64 0)).setCell ⟨w.heap.size, 3, none⟩ (.int .i64 0)) := ⟨_, rfl⟩
    have HFIN := HR.out _ (show Below w.heap.size w w4 by rw [hw4]; exact ((((HB3.out.setCell (Nat.le_refl _) _).setCell (Nat.le_refl _) _).setCell (Nat.le_refl _) _).setCell (Nat.le_refl _) _))
    have HROWF := HSET.out
    rw [← hw4] at HROWF ⊢
    clear hw4
    obtain ⟨y0, y1, y2, y3, _⟩ := row4 HROWF
    exact bodyPost_ret (v := .tuple #[.agg #[.string ⟨#[]⟩, .int .i64 0, .int .i64 0, .int .i64 0], .bool false]) (by simp [results, Tryd.results50, go_sem, y0, y1, y2, y3]) rfl HFIN
  · have h33 : (rbN s).length = 3 := by
      unfold t3B at h3
      rw [Bool.and_eq_true, decide_eq_true_eq, decide_eq_true_eq] at h3
      exact h3.2
    have HX := Lib.hid (three h33)
    have e1 : t3S s = cutA s 32 := by unfold t3S; rw [h3]; rfl
    have e2 : t3L s = rbN s := by unfold t3L; rw [h3]; rfl
    have HYES := Lib.hid (fun h W' hb => RB.yes (s := s) (w := w) (w' := W') (rb_good h3 h) hb)
    have HNO := Lib.hid (fun h W' hb => RB.no (s := s) (w := w) (w' := W') (rb_bad h) hb)
    have HONE := Lib.hid (fun p W h0 h1 h2 h4 => one_any p 0 (cutA s 32) (bend3 (rbN s)).1 (bend3 (rbN s)).2.1 (bend3 (rbN s)).2.2 (by have := (cut_len s 32).1; omega) W h0 h1 h2 h4)
    rw [e1, e2, h3] at HN
    clear hs e1 e2 h3
    have H33 := Lib.hid h33
    clear h33
    generalize cutA s 32 = a at *
    generalize (bend3 (rbN s)).1 = x at *
    generalize (bend3 (rbN s)).2.1 = y at *
    generalize (bend3 (rbN s)).2.2 = z at *
    have HN2 : Hid (∀ W, Calls Tryd.prog 79 #[.string s] W fun e w' => ∃ g c, e = .returned (.tuple #[.string a, .slice (some ⟨g, 0, none⟩) 3 c, .bool true]) ∧ g < w'.heap.size ∧ w'.cell? ⟨g, 0, none⟩ = some (.int .i64 x) ∧ w'.cell? ⟨g, 1, none⟩ = some (.int .i64 y) ∧ w'.cell? ⟨g, 2, none⟩ = some (.int .i64 z) ∧ Below W.heap.size W w') := fun W => (HN.out W).mono fun e w' ⟨v, he, ho, hb⟩ => by
      obtain ⟨g, cap, rfl, _, hg, hc⟩ := ho.form (by have := H33.out; omega)
      have c0 := hc 0 (by have := H33.out; omega)
      have c1 := hc 1 (by have := H33.out; omega)
      have c2 := hc 2 (by have := H33.out; omega)
      rw [HX.out] at c0 c1 c2
      exact ⟨g, cap, by rw [he, H33.out], hg, c0, c1, c2, hb⟩
    clear HN
    cases hbb : bendB a x y z
    · have HR := Lib.hid (fun W' hb => HNO.out hbb W' hb)
      rw [hbb] at HONE
      clear hbb
      go_enter Tryd.func50, Tryd.ntmps50
      go_wp2_with fail
      have HROW := Lib.hid (RowAt.new w 26 #[.string ⟨#[]⟩, .int .i64 0, .int .i64 0, .int .i64 0])
      generalize w.alloc (.cells #[.string ⟨#[]⟩, .int .i64 0, .int .i64 0, .int .i64 0] 26) = W0 at *
      refine (HN2.out W0).mono ?_
      rintro e w1 ⟨g, cp, rfl, hg, c0, c1, c2, hb1⟩
      have b1 := HB0.out.trans (hb1.mono HB0.out.size)
      have HROW1 := Lib.hid (rowAt_below HROW.out hb1)
      have bb := Below.refl w1.heap.size w1
      go_wp2_with fail
      go_region_held3 (fun w' => w'.cell? ⟨g, 0, none⟩ = some (.int .i64 x) ∧ w'.cell? ⟨g, 1, none⟩ = some (.int .i64 y) ∧ w'.cell? ⟨g, 2, none⟩ = some (.int .i64 z) ∧ Below w1.heap.size w1 w')
        (first | exact ⟨c0, c1, c2, bb.drew⟩ | (go_split_ands; exact keep3 hg (by assumption) (by assumption) (by assumption) (by assumption) (below_alloc _ _)) | exact keep3 hg c0 c1 c2 bb (below_alloc w1 _).drew)
        (fail)
      obtain ⟨r0, r1, r2, r3, r4, _⟩ := boxed4 w1 26 (.string a) (.int .i64 x) (.int .i64 y) (.int .i64 z)
      have HROW2 := rowAt_below HROW1.out r4.drew
      have b2 : Below w.heap.size w (w1.alloc (.cells #[.string a, .int .i64 x, .int .i64 y, .int .i64 z] 26)).drew := b1.trans (r4.drew.mono b1.size)
      have r0 : (w1.alloc (.cells #[.string a, .int .i64 x, .int .i64 y, .int .i64 z] 26)).drew.cell? ⟨w1.heap.size, 0, none⟩ = some (.string a) := r0
      have r1 : (w1.alloc (.cells #[.string a, .int .i64 x, .int .i64 y, .int .i64 z] 26)).drew.cell? ⟨w1.heap.size, 1, none⟩ = some (.int .i64 x) := r1
      have r2 : (w1.alloc (.cells #[.string a, .int .i64 x, .int .i64 y, .int .i64 z] 26)).drew.cell? ⟨w1.heap.size, 2, none⟩ = some (.int .i64 y) := r2
      have r3 : (w1.alloc (.cells #[.string a, .int .i64 x, .int .i64 y, .int .i64 z] 26)).drew.cell? ⟨w1.heap.size, 3, none⟩ = some (.int .i64 z) := r3
      have HO := Lib.hid (HONE.out _ _ r0 r1 r2 r3)
      generalize (w1.alloc (.cells #[.string a, .int .i64 x, .int .i64 y, .int .i64 z] 26)).drew = w2 at *
      go_wp2_with fail
      refine HO.out.mono ?_
      rintro e w3 ⟨rfl, rfl⟩
      have HB3 := Lib.hid b2
      have HSET := Lib.hid (rowSet4 HROW2 (.string ⟨#[]⟩) (.int .i64 0) (.int .i64 0) (.int .i64 0))
      obtain ⟨t0, t1, t2, t3, f0, f1, f2, f3⟩ := row4 HROW2
      clear r4 HROW2 b2
      go_wp2_with fail
      obtain ⟨w4, hw4⟩ : ∃ w4, w4 = ((((w2.setCell ⟨w.heap.size, 0, none⟩ (.string ⟨#[]⟩)).setCell ⟨w.heap.size, 1, none⟩ (.int .i64 0)).setCell ⟨w.heap.size, 2, none⟩ (.int .i64 0)).setCell ⟨w.heap.size, 3, none⟩ (.int .i64 0)) := ⟨_, rfl⟩
      have HFIN := HR.out _ (show Below w.heap.size w w4 by rw [hw4]; exact ((((HB3.out.setCell (Nat.le_refl _) _).setCell (Nat.le_refl _) _).setCell (Nat.le_refl _) _).setCell (Nat.le_refl _) _))
      have HROWF := HSET.out
      rw [← hw4] at HROWF ⊢
      clear hw4
      obtain ⟨y0, y1, y2, y3, _⟩ := row4 HROWF
      exact bodyPost_ret (v := .tuple #[.agg #[.string ⟨#[]⟩, .int .i64 0, .int .i64 0, .int .i64 0], .bool false]) (by simp [results, Tryd.results50, go_sem, y0, y1, y2, y3]) rfl HFIN
    · have HR := Lib.hid (fun W' hb => HYES.out hbb W' hb)
      rw [hbb] at HONE
      clear hbb
      go_enter Tryd.func50, Tryd.ntmps50
      go_wp2_with fail
      have HROW := Lib.hid (RowAt.new w 26 #[.string ⟨#[]⟩, .int .i64 0, .int .i64 0, .int .i64 0])
      generalize w.alloc (.cells #[.string ⟨#[]⟩, .int .i64 0, .int .i64 0, .int .i64 0] 26) = W0 at *
      refine (HN2.out W0).mono ?_
      rintro e w1 ⟨g, cp, rfl, hg, c0, c1, c2, hb1⟩
      have b1 := HB0.out.trans (hb1.mono HB0.out.size)
      have HROW1 := Lib.hid (rowAt_below HROW.out hb1)
      have bb := Below.refl w1.heap.size w1
      go_wp2_with fail
      go_region_held3 (fun w' => w'.cell? ⟨g, 0, none⟩ = some (.int .i64 x) ∧ w'.cell? ⟨g, 1, none⟩ = some (.int .i64 y) ∧ w'.cell? ⟨g, 2, none⟩ = some (.int .i64 z) ∧ Below w1.heap.size w1 w')
        (first | exact ⟨c0, c1, c2, bb.drew⟩ | (go_split_ands; exact keep3 hg (by assumption) (by assumption) (by assumption) (by assumption) (below_alloc _ _)) | exact keep3 hg c0 c1 c2 bb (below_alloc w1 _).drew)
        (fail)
      obtain ⟨r0, r1, r2, r3, r4, _⟩ := boxed4 w1 26 (.string a) (.int .i64 x) (.int .i64 y) (.int .i64 z)
      have HROW2 := rowAt_below HROW1.out r4.drew
      have b2 : Below w.heap.size w (w1.alloc (.cells #[.string a, .int .i64 x, .int .i64 y, .int .i64 z] 26)).drew := b1.trans (r4.drew.mono b1.size)
      have r0 : (w1.alloc (.cells #[.string a, .int .i64 x, .int .i64 y, .int .i64 z] 26)).drew.cell? ⟨w1.heap.size, 0, none⟩ = some (.string a) := r0
      have r1 : (w1.alloc (.cells #[.string a, .int .i64 x, .int .i64 y, .int .i64 z] 26)).drew.cell? ⟨w1.heap.size, 1, none⟩ = some (.int .i64 x) := r1
      have r2 : (w1.alloc (.cells #[.string a, .int .i64 x, .int .i64 y, .int .i64 z] 26)).drew.cell? ⟨w1.heap.size, 2, none⟩ = some (.int .i64 y) := r2
      have r3 : (w1.alloc (.cells #[.string a, .int .i64 x, .int .i64 y, .int .i64 z] 26)).drew.cell? ⟨w1.heap.size, 3, none⟩ = some (.int .i64 z) := r3
      have HO := Lib.hid (HONE.out _ _ r0 r1 r2 r3)
      generalize (w1.alloc (.cells #[.string a, .int .i64 x, .int .i64 y, .int .i64 z] 26)).drew = w2 at *
      go_wp2_with fail
      refine HO.out.mono ?_
      rintro e w3 ⟨rfl, rfl⟩
      have HB3 := Lib.hid b2
      have HSET := Lib.hid (rowSet4 HROW2 (.string a) (.int .i64 x) (.int .i64 y) (.int .i64 z))
      obtain ⟨t0, t1, t2, t3, f0, f1, f2, f3⟩ := row4 HROW2
      clear r4 HROW2 b2
      go_wp2_with fail
      obtain ⟨w4, hw4⟩ : ∃ w4, w4 = ((((w2.setCell ⟨w.heap.size, 0, none⟩ (.string a)).setCell ⟨w.heap.size, 1, none⟩ (.int .i64 x)).setCell ⟨w.heap.size, 2, none⟩ (.int .i64 y)).setCell ⟨w.heap.size, 3, none⟩ (.int .i64 z)) := ⟨_, rfl⟩
      have HFIN := HR.out _ (show Below w.heap.size w w4 by rw [hw4]; exact ((((HB3.out.setCell (Nat.le_refl _) _).setCell (Nat.le_refl _) _).setCell (Nat.le_refl _) _).setCell (Nat.le_refl _) _))
      have HROWF := HSET.out
      rw [← hw4] at HROWF ⊢
      clear hw4
      obtain ⟨y0, y1, y2, y3, _⟩ := row4 HROWF
      exact bodyPost_ret (v := .tuple #[.agg #[.string a, .int .i64 x, .int .i64 y, .int .i64 z], .bool true]) (by simp [results, Tryd.results50, go_sem, y0, y1, y2, y3]) rfl HFIN

theorem specReadBend_any (s : ByteArray) (hs : s.size ≤ 1048576) (w : World) : Calls Tryd.prog 25 #[.string s] w (RB s w) := by
  have HF := Lib.hid (fun W => l04Read_any s hs W)
  unfold RB at HF ⊢
  clear hs
  generalize rbId s = a at *
  generalize rbR s = x at *
  generalize rbLn s = y at *
  generalize rbC s = z at *
  generalize rbB s = b at *
  have HB0 := Lib.hid (below_alloc w (.cells #[.string ⟨#[]⟩, .int .i64 0, .int .i64 0, .int .i64 0] 26))
  go_enter Tryd.func25, Tryd.ntmps25
  go_wp2_with fail
  have HROW := Lib.hid (RowAt.new w 26 #[.string ⟨#[]⟩, .int .i64 0, .int .i64 0, .int .i64 0])
  generalize w.alloc (.cells #[.string ⟨#[]⟩, .int .i64 0, .int .i64 0, .int .i64 0] 26) = W0 at *
  refine (HF.out W0).mono ?_
  rintro e w3 ⟨rfl, hb1⟩
  have b3 := HB0.out.trans (hb1.mono HB0.out.size)
  have HROW3 := rowAt_below HROW.out hb1
  have HSET := Lib.hid (rowSet4 HROW3 (.string a) (.int .i64 x) (.int .i64 y) (.int .i64 z))
  have HB3 := Lib.hid b3
  have HR : Hid (∀ W', Below w.heap.size w W' → Below w.heap.size w W') := fun W' h => h
  obtain ⟨t0, t1, t2, t3, f0, f1, f2, f3⟩ := row4 HROW3
  clear HROW3 b3 hb1
  go_wp2_with fail
  obtain ⟨w4, hw4⟩ : ∃ w4, w4 = ((((w3.setCell ⟨w.heap.size, 0, none⟩ (.string a)).setCell ⟨w.heap.size, 1, none⟩ (.int .i64 x)).setCell ⟨w.heap.size, 2, none⟩ (.int .i64 y)).setCell ⟨w.heap.size, 3, none⟩ (.int .i64 z)) := ⟨_, rfl⟩
  have HFIN := HR.out _ (show Below w.heap.size w w4 by rw [hw4]; exact ((((HB3.out.setCell (Nat.le_refl _) _).setCell (Nat.le_refl _) _).setCell (Nat.le_refl _) _).setCell (Nat.le_refl _) _))
  have HROWF := HSET.out
  rw [← hw4] at HROWF ⊢
  clear hw4
  obtain ⟨y0, y1, y2, y3, _⟩ := row4 HROWF
  exact bodyPost_ret (v := .tuple #[.agg #[.string a, .int .i64 x, .int .i64 y, .int .i64 z], .bool b]) (by simp [results, Tryd.results25, go_sem, y0, y1, y2, y3]) rfl ⟨rfl, HFIN⟩

/-! ### the law -/
theorem eqBend_any (s : ByteArray) (r l c : Int) (w : World) : Calls Tryd.prog 27 #[.agg #[.string s, .int .i64 r, .int .i64 l, .int .i64 c], .agg #[.string s, .int .i64 r, .int .i64 l, .int .i64 c]] w fun e w' => e = .returned (.bool true) ∧ Below w.heap.size w w' := by
  have hb : Hid (∀ o1 o2, Below w.heap.size w ((w.alloc o1).alloc o2)) := fun o1 o2 => ((Below.refl _ _).alloc (Nat.le_refl _) _).alloc (by simp) _
  go_enter Tryd.func27, Tryd.ntmps27
  go_wp2
  go_ret
  exact ⟨rfl, hb.out _ _⟩
theorem readBend_law (s : ByteArray) (_ : s.size ≤ maxLen) (w : World) (hsh : Shp w) (hE : Env w) :
    Calls Tryd.prog 7 #[.string s] w fun e w' => e = .returned (.bool true) ∧ Below w.heap.size w w' := by
  by_cases h : (s.size : Int) ≤ 1048576
  · have hs : s.size ≤ 1048576 := by omega
    have HS := Lib.hid (fun W => specReadBend_any s hs W)
    have HI := Lib.hid (fun W (hb : Below w.heap.size w W) => implReadBend_any s hs W (hsh.below hb) (hE.below hb))
    unfold RB at HS HI
    clear hs hsh hE
    generalize rbId s = a at *
    generalize rbR s = x at *
    generalize rbLn s = y at *
    generalize rbC s = z at *
    generalize rbB s = b at *
    cases b
    all_goals
      go_enter Tryd.func7, Tryd.ntmps7
      go_wp2_with fail
      refine (HS.out _).mono ?_
      rintro e w1 ⟨rfl, b1⟩
      go_wp2_with fail
      obtain ⟨q0, q1, q2, q3, q4, q5⟩ := boxed4 w1 26 (.string a) (.int .i64 x) (.int .i64 y) (.int .i64 z)
      generalize w1.alloc (.cells #[.string a, .int .i64 x, .int .i64 y, .int .i64 z] 26) = W1 at *
      have hp1 : w1.heap.size < W1.heap.size := by omega
      have b2 := b1.trans (q4.mono b1.size)
      clear q4 q5
      refine (HI.out _ b2).mono ?_
      rintro e w2 ⟨rfl, hb2⟩
      have z2 := keepB hp1 q0 q1 q2 q3 (Below.refl _ _) hb2
      have b3 := b2.trans (hb2.mono b2.size)
      have hsz := hb2.size
      clear hb2 q0 q1 q2 q3 b2
      obtain ⟨q0, q1, q2, q3, _⟩ := z2
      obtain ⟨r0, r1, r2, r3, r4, r5⟩ := boxed4 w2 26 (.string a) (.int .i64 x) (.int .i64 y) (.int .i64 z)
      have z3 := keepB (Nat.lt_of_lt_of_le hp1 hsz) q0 q1 q2 q3 (Below.refl _ _) r4
      have b4 := b3.trans (r4.mono b3.size)
      clear r4 r5 b3 q0 q1 q2 q3
      obtain ⟨q0, q1, q2, q3, _⟩ := z3
      go_wp2_with fail
      generalize w2.alloc (.cells #[.string a, .int .i64 x, .int .i64 y, .int .i64 z] 26) = W2 at *
      refine (eqBend_any _ _ _ _ _).mono ?_
      rintro e w3 ⟨rfl, hb3⟩
      have b3 := b4.trans (hb3.mono b4.size)
      clear hb3 b4
      go_wp2_with fail
      go_ret
      exact ⟨rfl, b3⟩
  · clear hsh hE
    have b : Below w.heap.size w w := Below.refl _ _
    go_enter Tryd.func7, Tryd.ntmps7
    go_wp2_with fail
    go_ret
    exact ⟨rfl, b⟩

end Go.Proofs.YtdadldfplooooaaDoor.RbA
