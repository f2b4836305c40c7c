/- The walks of bends read from their texts, program and reference. -/
import Derived.Test.YtlknncmnphbpkaaGreatDoorTxtI
import Derived.Test.YtlknncmnphbpkaaGreatDoorTxtY
import Derived.Deep.RegionHeld3
namespace Go.Proofs.YtlknncmnphbpkaaGreatDoor.RbA
set_option maxRecDepth 100000
open Go.RowKit Go.Proofs.YtlknncmnphbpkaaGreatDoor.Plain Go.Proofs.YtlknncmnphbpkaaGreatDoor.TxtA Go.Proofs.YtlknncmnphbpkaaGreatDoor.TxtB Go.Proofs.YtlknncmnphbpkaaGreatDoor.TxtG Go.Proofs.YtlknncmnphbpkaaGreatDoor.TxtH Go.Proofs.YtlknncmnphbpkaaGreatDoor.TxtN Go.Proofs.YtlknncmnphbpkaaGreatDoor.TxtS Go.Proofs.YtlknncmnphbpkaaGreatDoor.TxtP Go.Proofs.YtlknncmnphbpkaaGreatDoor.TxtQ Go.Proofs.YtlknncmnphbpkaaGreatDoor.TxtR Go.Proofs.YtlknncmnphbpkaaGreatDoor.TxtT Go.Proofs.YtlknncmnphbpkaaGreatDoor.TxtX Go.Proofs.YtlknncmnphbpkaaGreatDoor.TxtY Go.Proofs.YtlknncmnphbpkaaGreatDoor.TxtZ Go.Proofs.YtlknncmnphbpkaaGreatDoor.TxtI Go.Proofs.YtlknncmnphbpkaaGreatDoor.WalkA Go.Proofs.YtlknncmnphbpkaaGreatDoor.WalkB Go.Proofs.YtlknncmnphbpkaaGreatDoor.WalkC Go.Proofs.YtlknncmnphbpkaaGreatDoor.WalkF Go.Proofs.YtlknncmnphbpkaaGreatDoor.WalkH Go.Proofs.YtlknncmnphbpkaaGreatDoor.BndA Go.Proofs.YtlknncmnphbpkaaGreatDoor.BLaw

/-- The fields of a bend read; the zero bend if there is none. -/
def rbId (s : ByteArray) : ByteArray := if rbB s = true then cutA s 32 else ⟨#[]⟩
def rbR (s : ByteArray) : Int := if rbB s = true then (bend3 (rbN s)).1 else 0
def rbLn (s : ByteArray) : Int := if rbB s = true then (bend3 (rbN s)).2.1 else 0
def rbC (s : ByteArray) : Int := if rbB s = true then (bend3 (rbN s)).2.2 else 0
def RB (s : ByteArray) (w : World) (e : Ending) (w' : World) : Prop := e = .returned (.tuple #[.agg #[.string (rbId s), .int .i64 (rbR s), .int .i64 (rbLn s), .int .i64 (rbC s)], .bool (rbB s)]) ∧ Below w.heap.size w w'
theorem RB.no {s : ByteArray} {w w' : World} (h : rbB s = false) (hb : Below w.heap.size w w') : RB s w (.returned (.tuple #[.agg #[.string ⟨#[]⟩, .int .i64 0, .int .i64 0, .int .i64 0], .bool false])) w' := by
  unfold RB rbId rbR rbLn rbC
  rw [h]
  exact ⟨rfl, hb⟩
theorem RB.yes {s : ByteArray} {w w' : World} (h : rbB s = true) (hb : Below w.heap.size w w') : RB s w (.returned (.tuple #[.agg #[.string (cutA s 32), .int .i64 (bend3 (rbN s)).1, .int .i64 (bend3 (rbN s)).2.1, .int .i64 (bend3 (rbN s)).2.2], .bool true])) w' := by
  unfold RB rbId rbR rbLn rbC
  rw [h]
  exact ⟨rfl, hb⟩
def NN (s : ByteArray) (w : World) (e : Ending) (w' : World) : Prop := ∃ v, e = .returned (.tuple #[.string (cutA s 32), v, .bool (decide ((rbN s).length = 3))]) ∧ OwnI w' w.heap.size v (rbN s) ∧ Below w.heap.size w w'
theorem drew_B (w : World) (m : Nat) : Below w.heap.size w (w.drewN m) := ⟨rfl, rfl, rfl, Nat.le_refl _, fun _ _ => rfl⟩
theorem rowAt_below {W W' : World} {g : Nat} {t : TypeId} {cs : Array Value} (h : RowAt W g t cs) (hb : Below W.heap.size W W') : RowAt W' g t cs := (hb.block g h.lt).trans h
theorem keep3 {g : Nat} {W wc w2 : World} {v0 v1 v2 : Value} (hp : g < W.heap.size) (h0 : wc.cell? ⟨g, 0, none⟩ = some v0) (h1 : wc.cell? ⟨g, 1, none⟩ = some v1) (h2 : wc.cell? ⟨g, 2, none⟩ = some v2) (hb : Below W.heap.size W wc) (h : Below wc.heap.size wc w2) :
    w2.cell? ⟨g, 0, none⟩ = some v0 ∧ w2.cell? ⟨g, 1, none⟩ = some v1 ∧ w2.cell? ⟨g, 2, none⟩ = some v2 ∧ Below W.heap.size W w2 :=
  have hp' := Nat.lt_of_lt_of_le hp hb.size
  ⟨(h.cell (p := ⟨g, 0, none⟩) hp').trans h0, (h.cell (p := ⟨g, 1, none⟩) hp').trans h1, (h.cell (p := ⟨g, 2, none⟩) hp').trans h2, hb.trans (h.mono hb.size)⟩
theorem row4 {W : World} {g : Nat} {t : TypeId} {a b c d : Value} (h : RowAt W g t #[a, b, c, d]) :
    W.cell? ⟨g, 0, none⟩ = some a ∧ W.cell? ⟨g, 1, none⟩ = some b ∧ W.cell? ⟨g, 2, none⟩ = some c ∧ W.cell? ⟨g, 3, none⟩ = some d ∧ W.frozen? ⟨g, 0, none⟩ = false ∧ W.frozen? ⟨g, 1, none⟩ = false ∧ W.frozen? ⟨g, 2, none⟩ = false ∧ W.frozen? ⟨g, 3, none⟩ = false :=
  ⟨h.cell 0, h.cell 1, h.cell 2, h.cell 3, h.frozen 0, h.frozen 1, h.frozen 2, h.frozen 3⟩
theorem rowSet4 {W : World} {g : Nat} {t : TypeId} {a0 b0 c0 d0 : Value} (h : RowAt W g t #[a0, b0, c0, d0]) (a b c d : Value) :
    RowAt ((((W.setCell ⟨g, 0, none⟩ a).setCell ⟨g, 1, none⟩ b).setCell ⟨g, 2, none⟩ c).setCell ⟨g, 3, none⟩ d) g t #[a, b, c, d] := (((h.store 0 a).store 1 b).store 2 c).store 3 d
theorem readNamed_any (s : ByteArray) (hs : s.size ≤ 1048576) (w : World) (hsh : Shp w) (hE : Env w) : Calls Tryz.prog 44 #[.string s, .int .i64 3] w (NN s w) := by
  have HC : Hid (∃ b, Calls Tryz.prog 62 #[.string s, .string ⟨#[32]⟩] w fun e w' => e = .returned (.tuple #[.string (cutA s 32), .string (cutZ s 32), .bool b]) ∧ ∃ n, w' = w.drewN n) := ⟨_, Tryz.strings_Cut_shaped s ⟨#[32]⟩ w hsh (by omega)⟩
  have hz := (cut_len s 32).2
  have HR := Lib.hid (fun n => implReadList_any (cutZ s 32) (by omega) (w.drewN n) (hsh.below (drew_B w n)) (hE.below (drew_B w n)))
  have HL := Lib.hid (show rbN s = rdL (cutZ s 32) from rfl)
  have HLE := Lib.hid (rdL_le (cutZ s 32))
  unfold RL at HR
  unfold NN
  rw [HL.out]
  generalize cutZ s 32 = z at *
  generalize cutA s 32 = a at *
  generalize rdL z = l at *
  generalize rlB z = lb at *
  obtain ⟨b, HC⟩ := HC
  have HC := Lib.hid HC
  clear hz hs hsh hE
  by_cases h3 : l.length = 3
  · have HD := Lib.hid (decide_eq_true h3)
    have H3 := Lib.hid h3
    clear h3
    go_enter Tryz.func44, Tryz.ntmps44
    go_wp2_with fail
    refine HC.out.mono ?_
    rintro e w1 ⟨rfl, n, rfl⟩
    go_wp2_with fail
    refine (HR.out n).mono ?_
    rintro e w2 ⟨v, rfl, ho, hb⟩
    obtain ⟨A, c, rfl⟩ := OwnI.shape' H3.out ho
    go_wp2_with fail
    go_ret3
    exact ⟨.slice A 3 c, by rw [HD.out]; rfl, ho, (drew_B w n).trans hb⟩
  · have HD := Lib.hid (decide_eq_false h3)
    obtain ⟨k, hk⟩ : ∃ k, l.length = k := ⟨_, rfl⟩
    have HK := Lib.hid hk
    have hk64 := HLE.out
    rw [hk] at h3 hk64
    have hne : ((k : Int) == 3) = false := by rw [beq_eq_false_iff_ne]; omega
    clear hk h3
    go_enter Tryz.func44, Tryz.ntmps44
    go_wp2_with fail
    refine HC.out.mono ?_
    rintro e w1 ⟨rfl, n, rfl⟩
    go_wp2_with fail
    refine (HR.out n).mono ?_
    rintro e w2 ⟨v, rfl, ho, hb⟩
    obtain ⟨A, c, rfl⟩ := OwnI.shape' HK.out ho
    go_wp2_with fail
    go_ret3
    exact ⟨.slice A k c, by rw [HD.out]; rfl, ho, (drew_B w n).trans hb⟩


set_option maxHeartbeats 1000000 in
theorem implReadBend_any (s : ByteArray) (hs : s.size ≤ 1048576) (w : World) (hsh : Shp w) (hE : Env w) : Calls Tryz.prog 15 #[.string s] w (RB s w) := by
  have HN := Lib.hid (fun W (hb : Below w.heap.size w W) => readNamed_any s hs W (hsh.below hb) (hE.below hb))
  unfold NN at HN
  have HB0 := Lib.hid (below_alloc w (.cells #[.string ⟨#[]⟩, .int .i64 0, .int .i64 0, .int .i64 0] 25))
  by_cases h3 : (rbN s).length = 3
  · rw [decide_eq_true h3] at HN
    have HT := Lib.hid (fun W (hb : Below w.heap.size w W) => implBendText_any (cutA s 32) (bend3 (rbN s)).1 (bend3 (rbN s)).2.1 (bend3 (rbN s)).2.2 (by have := (cut_len s 32).1; omega) W (hE.tab.below hb))
    have HX := Lib.hid (three h3)
    have HP := Lib.hid (show rbP s = bendP (cutA s 32) (bend3 (rbN s)).1 (bend3 (rbN s)).2.1 (bend3 (rbN s)).2.2 from rfl)
    have HYES := Lib.hid (fun h W' hb => RB.yes (s := s) (w := w) (w' := W') h hb)
    have HNO := Lib.hid (fun h W' hb => RB.no (s := s) (w := w) (w' := W') h hb)
    have HBB := Lib.hid (show rbB s = (decide ((rbN s).length = 3) && decide (rbP s = s)) from rfl)
    rw [← HP.out] at HT
    have H3 := Lib.hid h3
    clear hs hsh hE
    generalize cutA s 32 = a at *
    generalize (bend3 (rbN s)).1 = x at *
    generalize (bend3 (rbN s)).2.1 = y at *
    generalize (bend3 (rbN s)).2.2 = z at *
    generalize rbP s = T at *
    have HN2 : Hid (∀ W, Below w.heap.size w W → Calls Tryz.prog 44 #[.string s, .int .i64 3] W fun e w' => ∃ g c, e = .returned (.tuple #[.string a, .slice (some ⟨g, 0, none⟩) 3 c, .bool true]) ∧ g < w'.heap.size ∧ w'.cell? ⟨g, 0, none⟩ = some (.int .i64 x) ∧ w'.cell? ⟨g, 1, none⟩ = some (.int .i64 y) ∧ w'.cell? ⟨g, 2, none⟩ = some (.int .i64 z) ∧ Below W.heap.size W w') := fun W hW => (HN.out W hW).mono fun e w' ⟨v, he, ho, hb⟩ => by
      obtain ⟨g, cap, rfl, _, hg, hc⟩ := ho.form (by omega)
      have c0 := hc 0 (by omega)
      have c1 := hc 1 (by omega)
      have c2 := hc 2 (by omega)
      rw [HX.out] at c0 c1 c2
      exact ⟨g, cap, by rw [he, h3], hg, c0, c1, c2, hb⟩
    clear HN
    by_cases ht : T = s
    · have HR := Lib.hid (fun W' hb => HYES.out (by rw [HBB.out, decide_eq_true h3, decide_eq_true ht]; rfl) W' hb)
      rw [ht] at HT
      clear h3 ht
      go_enter Tryz.func15, Tryz.ntmps15
      go_wp2_with fail
      have HROW := Lib.hid (RowAt.new w 25 #[.string ⟨#[]⟩, .int .i64 0, .int .i64 0, .int .i64 0])
      generalize w.alloc (.cells #[.string ⟨#[]⟩, .int .i64 0, .int .i64 0, .int .i64 0] 25) = W0 at *
      refine (HN2.out _ HB0.out).mono ?_
      rintro e w1 ⟨g, cp, rfl, hg, c0, c1, c2, hb1⟩
      have b1 := HB0.out.trans (hb1.mono HB0.out.size)
      have HROW1 := Lib.hid (rowAt_below HROW.out hb1)
      have bb := Below.refl w1.heap.size w1
      go_wp2_with fail
      go_region_held3 (fun w' => w'.cell? ⟨g, 0, none⟩ = some (.int .i64 x) ∧ w'.cell? ⟨g, 1, none⟩ = some (.int .i64 y) ∧ w'.cell? ⟨g, 2, none⟩ = some (.int .i64 z) ∧ Below w1.heap.size w1 w')
        (first | exact ⟨c0, c1, c2, bb.drew⟩ | (go_split_ands; exact keep3 hg (by assumption) (by assumption) (by assumption) (by assumption) (below_alloc _ _)) | exact keep3 hg c0 c1 c2 bb (below_alloc w1 _).drew)
        (fail)
      obtain ⟨r0, r1, r2, r3, r4, _⟩ := boxed4 w1 25 (.string a) (.int .i64 x) (.int .i64 y) (.int .i64 z)
      have HROW2 := Lib.hid (rowAt_below HROW1.out r4.drew)
      have hs2 : w1.heap.size < (w1.alloc (.cells #[.string a, .int .i64 x, .int .i64 y, .int .i64 z] 25)).drew.heap.size := by simp
      have b2 : Below w.heap.size w (w1.alloc (.cells #[.string a, .int .i64 x, .int .i64 y, .int .i64 z] 25)).drew := b1.trans (r4.drew.mono b1.size)
      have r0 : (w1.alloc (.cells #[.string a, .int .i64 x, .int .i64 y, .int .i64 z] 25)).drew.cell? ⟨w1.heap.size, 0, none⟩ = some (.string a) := r0
      have r1 : (w1.alloc (.cells #[.string a, .int .i64 x, .int .i64 y, .int .i64 z] 25)).drew.cell? ⟨w1.heap.size, 1, none⟩ = some (.int .i64 x) := r1
      have r2 : (w1.alloc (.cells #[.string a, .int .i64 x, .int .i64 y, .int .i64 z] 25)).drew.cell? ⟨w1.heap.size, 2, none⟩ = some (.int .i64 y) := r2
      have r3 : (w1.alloc (.cells #[.string a, .int .i64 x, .int .i64 y, .int .i64 z] 25)).drew.cell? ⟨w1.heap.size, 3, none⟩ = some (.int .i64 z) := r3
      generalize (w1.alloc (.cells #[.string a, .int .i64 x, .int .i64 y, .int .i64 z] 25)).drew = w2 at *
      go_wp2_with fail
      refine (HT.out _ b2).mono ?_
      rintro e w3 ⟨rfl, hb3⟩
      have z3 := keepB hs2 r0 r1 r2 r3 (Below.refl _ _) hb3
      obtain ⟨s0, s1, s2, s3, _⟩ := z3
      have HROW3 := rowAt_below HROW2.out hb3
      have b3 := b2.trans (hb3.mono b2.size)
      have HSET := Lib.hid (rowSet4 HROW3 (.string a) (.int .i64 x) (.int .i64 y) (.int .i64 z))
      have HB3 := Lib.hid b3
      obtain ⟨t0, t1, t2, t3, f0, f1, f2, f3⟩ := row4 HROW3
      clear r0 r1 r2 r3 r4 HROW3 b3
      go_wp2_with fail
      obtain ⟨w4, hw4⟩ : ∃ w4, w4 = ((((w3.setCell ⟨w.heap.size, 0, none⟩ (.string a)).setCell ⟨w.heap.size, 1, none⟩ (.int .i64 x)).setCell ⟨w.heap.size, 2, none⟩ (.int .i64 y)).setCell ⟨w.heap.size, 3, none⟩ (.int .i64 z)) := ⟨_, rfl⟩
      have HFIN := HR.out _ (show Below w.heap.size w w4 by rw [hw4]; exact ((((HB3.out.setCell (Nat.le_refl _) _).setCell (Nat.le_refl _) _).setCell (Nat.le_refl _) _).setCell (Nat.le_refl _) _))
      have HROWF := HSET.out
      rw [← hw4] at HROWF ⊢
      clear hw4
      obtain ⟨y0, y1, y2, y3, _⟩ := row4 HROWF
      exact bodyPost_ret (v := .tuple #[.agg #[.string a, .int .i64 x, .int .i64 y, .int .i64 z], .bool true]) (by simp [results, Tryz.results15, go_sem, y0, y1, y2, y3]) rfl HFIN
    · have HR := Lib.hid (fun W' hb => HNO.out (by rw [HBB.out, decide_eq_false ht, Bool.and_false]) W' hb)
      have hne := list_ne ht
      clear h3 ht
      go_enter Tryz.func15, Tryz.ntmps15
      go_wp2_with fail
      have HROW := Lib.hid (RowAt.new w 25 #[.string ⟨#[]⟩, .int .i64 0, .int .i64 0, .int .i64 0])
      generalize w.alloc (.cells #[.string ⟨#[]⟩, .int .i64 0, .int .i64 0, .int .i64 0] 25) = W0 at *
      refine (HN2.out _ HB0.out).mono ?_
      rintro e w1 ⟨g, cp, rfl, hg, c0, c1, c2, hb1⟩
      have b1 := HB0.out.trans (hb1.mono HB0.out.size)
      have HROW1 := Lib.hid (rowAt_below HROW.out hb1)
      have bb := Below.refl w1.heap.size w1
      go_wp2_with fail
      go_region_held3 (fun w' => w'.cell? ⟨g, 0, none⟩ = some (.int .i64 x) ∧ w'.cell? ⟨g, 1, none⟩ = some (.int .i64 y) ∧ w'.cell? ⟨g, 2, none⟩ = some (.int .i64 z) ∧ Below w1.heap.size w1 w')
        (first | exact ⟨c0, c1, c2, bb.drew⟩ | (go_split_ands; exact keep3 hg (by assumption) (by assumption) (by assumption) (by assumption) (below_alloc _ _)) | exact keep3 hg c0 c1 c2 bb (below_alloc w1 _).drew)
        (fail)
      obtain ⟨r0, r1, r2, r3, r4, _⟩ := boxed4 w1 25 (.string a) (.int .i64 x) (.int .i64 y) (.int .i64 z)
      have HROW2 := Lib.hid (rowAt_below HROW1.out r4.drew)
      have hs2 : w1.heap.size < (w1.alloc (.cells #[.string a, .int .i64 x, .int .i64 y, .int .i64 z] 25)).drew.heap.size := by simp
      have b2 : Below w.heap.size w (w1.alloc (.cells #[.string a, .int .i64 x, .int .i64 y, .int .i64 z] 25)).drew := b1.trans (r4.drew.mono b1.size)
      have r0 : (w1.alloc (.cells #[.string a, .int .i64 x, .int .i64 y, .int .i64 z] 25)).drew.cell? ⟨w1.heap.size, 0, none⟩ = some (.string a) := r0
      have r1 : (w1.alloc (.cells #[.string a, .int .i64 x, .int .i64 y, .int .i64 z] 25)).drew.cell? ⟨w1.heap.size, 1, none⟩ = some (.int .i64 x) := r1
      have r2 : (w1.alloc (.cells #[.string a, .int .i64 x, .int .i64 y, .int .i64 z] 25)).drew.cell? ⟨w1.heap.size, 2, none⟩ = some (.int .i64 y) := r2
      have r3 : (w1.alloc (.cells #[.string a, .int .i64 x, .int .i64 y, .int .i64 z] 25)).drew.cell? ⟨w1.heap.size, 3, none⟩ = some (.int .i64 z) := r3
      generalize (w1.alloc (.cells #[.string a, .int .i64 x, .int .i64 y, .int .i64 z] 25)).drew = w2 at *
      go_wp2_with fail
      refine (HT.out _ b2).mono ?_
      rintro e w3 ⟨rfl, hb3⟩
      have z3 := keepB hs2 r0 r1 r2 r3 (Below.refl _ _) hb3
      obtain ⟨s0, s1, s2, s3, _⟩ := z3
      have HROW3 := rowAt_below HROW2.out hb3
      have b3 := b2.trans (hb3.mono b2.size)
      have HSET := Lib.hid (rowSet4 HROW3 (.string ⟨#[]⟩) (.int .i64 0) (.int .i64 0) (.int .i64 0))
      have HB3 := Lib.hid b3
      obtain ⟨t0, t1, t2, t3, f0, f1, f2, f3⟩ := row4 HROW3
      clear r0 r1 r2 r3 r4 HROW3 b3
      go_wp2_with fail
      obtain ⟨w4, hw4⟩ : ∃ w4, w4 = ((((w3.setCell ⟨w.heap.size, 0, none⟩ (.string ⟨#[]⟩)).setCell ⟨w.heap.size, 1, none⟩ (.int .i64 0)).setCell ⟨w.heap.size, 2, none⟩ (.int .i64 0)).setCell ⟨w.heap.size, 3, none⟩ (.int .i64 0)) := ⟨_, rfl⟩
      have HFIN := HR.out _ (show Below w.heap.size w w4 by rw [hw4]; exact ((((HB3.out.setCell (Nat.le_refl _) _).setCell (Nat.le_refl _) _).setCell (Nat.le_refl _) _).setCell (Nat.le_refl _) _))
      have HROWF := HSET.out
      rw [← hw4] at HROWF ⊢
      clear hw4
      obtain ⟨y0, y1, y2, y3, _⟩ := row4 HROWF
      exact bodyPost_ret (v := .tuple #[.agg #[.string ⟨#[]⟩, .int .i64 0, .int .i64 0, .int .i64 0], .bool false]) (by simp [results, Tryz.results15, go_sem, y0, y1, y2, y3]) rfl HFIN
  · rw [decide_eq_false h3] at HN
    have HR := Lib.hid (fun W' hb => RB.no (s := s) (w := w) (w' := W') (by unfold rbB; rw [decide_eq_false h3]; rfl) hb)
    clear hs hsh hE h3
    generalize cutA s 32 = a at *
    generalize rbN s = l at *
    go_enter Tryz.func15, Tryz.ntmps15
    go_wp2_with fail
    have HROW := Lib.hid (RowAt.new w 25 #[.string ⟨#[]⟩, .int .i64 0, .int .i64 0, .int .i64 0])
    generalize w.alloc (.cells #[.string ⟨#[]⟩, .int .i64 0, .int .i64 0, .int .i64 0] 25) = W0 at *
    refine (HN.out _ HB0.out).mono ?_
    rintro e w3 ⟨v, rfl, _, hb1⟩
    have b3 := HB0.out.trans (hb1.mono HB0.out.size)
    have HROW3 := rowAt_below HROW.out hb1
    have HSET := Lib.hid (rowSet4 HROW3 (.string ⟨#[]⟩) (.int .i64 0) (.int .i64 0) (.int .i64 0))
    have HB3 := Lib.hid b3
    obtain ⟨t0, t1, t2, t3, f0, f1, f2, f3⟩ := row4 HROW3
    clear HROW3 b3 hb1
    go_wp2_with fail
    obtain ⟨w4, hw4⟩ : ∃ w4, w4 = ((((w3.setCell ⟨w.heap.size, 0, none⟩ (.string ⟨#[]⟩)).setCell ⟨w.heap.size, 1, none⟩ (.int .i64 0)).setCell ⟨w.heap.size, 2, none⟩ (.int .i64 0)).setCell ⟨w.heap.size, 3, none⟩ (.int .i64 0)) := ⟨_, rfl⟩
    have HFIN := HR.out _ (show Below w.heap.size w w4 by rw [hw4]; exact ((((HB3.out.setCell (Nat.le_refl _) _).setCell (Nat.le_refl _) _).setCell (Nat.le_refl _) _).setCell (Nat.le_refl _) _))
    have HROWF := HSET.out
    rw [← hw4] at HROWF ⊢
    clear hw4
    obtain ⟨y0, y1, y2, y3, _⟩ := row4 HROWF
    exact bodyPost_ret (v := .tuple #[.agg #[.string ⟨#[]⟩, .int .i64 0, .int .i64 0, .int .i64 0], .bool false]) (by simp [results, Tryz.results15, go_sem, y0, y1, y2, y3]) rfl HFIN

/-! ### the reference's reading -/
theorem two_parts {x : ByteArray} {c : UInt8} (h : (spl x c).length = 2) : spl x c = [cutA x c, cutZ x c] := by
  match hs : spl x c, h with
  | [p, q], _ =>
    obtain ⟨hd, hx, hy⟩ := two_spl hs
    obtain ⟨c1, c2⟩ := cut_hit hd hx
    rw [c1, c2]
def t3B (s : ByteArray) : Bool := decide ((spl s 32).length = 2) && decide ((rbN s).length = 3)
def t3S (s : ByteArray) : ByteArray := if t3B s = true then cutA s 32 else ⟨#[]⟩
def t3L (s : ByteArray) : List Int := if t3B s = true then rbN s else []
def T3 (s : ByteArray) (w : World) (e : Ending) (w' : World) : Prop := ∃ v, e = .returned (.tuple #[.string (t3S s), v, .bool (t3B s)]) ∧ OwnI w' w.heap.size v (t3L s) ∧ Below w.heap.size w w'
theorem T3.no {s : ByteArray} {w w' : World} (h : t3B s = false) (hb : Below w.heap.size w w') : T3 s w (.returned (.tuple #[.string ⟨#[]⟩, .slice none 0 0, .bool false])) w' := by
  unfold T3 t3S t3L
  rw [h]
  exact ⟨_, rfl, OwnI.none _ _, hb⟩
theorem T3.yes {s : ByteArray} {w w' : World} {v : Value} (h : t3B s = true) (ho : OwnI w' w.heap.size v (rbN s)) (hb : Below w.heap.size w w') : T3 s w (.returned (.tuple #[.string (cutA s 32), v, .bool true])) w' := by
  unfold T3 t3S t3L
  rw [h]
  exact ⟨_, rfl, ho, hb⟩
theorem rl_of_len {z : ByteArray} (h : (rdL z).length = 3) : rlB z = true := by
  unfold rlB
  rw [(TxtX.rdL_yes (s := z) (by omega)).1, Bool.or_true]
theorem rb_none {s : ByteArray} (h : t3B s = false) : rbB s = false := by
  cases hr : rbB s
  · rfl
  · exfalso
    have h2 := (rb_yes hr).1
    unfold t3B at h
    rw [h2] at h
    unfold rbB at hr
    rw [Bool.and_eq_true] at hr
    rw [hr.1] at h
    cases h
theorem rb_bad {s : ByteArray} (h : bendB (cutA s 32) (bend3 (rbN s)).1 (bend3 (rbN s)).2.1 (bend3 (rbN s)).2.2 = false) : rbB s = false := by
  cases hr : rbB s
  · rfl
  · have := (rb_yes hr).2.2
    rw [h] at this
    cases this
theorem rb_good {s : ByteArray} (h : t3B s = true) (hb : bendB (cutA s 32) (bend3 (rbN s)).1 (bend3 (rbN s)).2.1 (bend3 (rbN s)).2.2 = true) : rbB s = true := by
  unfold t3B at h
  rw [Bool.and_eq_true, decide_eq_true_eq, decide_eq_true_eq] at h
  exact (rb_of (two_parts h.1) (TxtX.rdL_yes (s := cutZ s 32) (by have := h.2; unfold rbN at this; omega)).1 h.2 hb).1

end Go.Proofs.YtlknncmnphbpkaaGreatDoor.RbA
