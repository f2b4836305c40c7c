/- A track's text, program and reference; its law. -/
import Derived.Test.YtomkldkmaabbnaaDoorTxtK
import Derived.Test.YtomkldkmaabbnaaDoorTxtT
import Derived.Test.YtomkldkmaabbnaaDoorTxtU
import Derived.Test.YtomkldkmaabbnaaDoorTrkD
import Derived.Laws.Concat
import Derived.Deep.RegionHeld3
namespace Go.Proofs.YtomkldkmaabbnaaDoor.TkA
set_option maxRecDepth 100000
open Go.RowKit Go.Proofs.YtomkldkmaabbnaaDoor.Plain Go.Proofs.YtomkldkmaabbnaaDoor.TrkP Go.Proofs.YtomkldkmaabbnaaDoor.TxtA Go.Proofs.YtomkldkmaabbnaaDoor.TxtB Go.Proofs.YtomkldkmaabbnaaDoor.TxtH Go.Proofs.YtomkldkmaabbnaaDoor.TxtN Go.Proofs.YtomkldkmaabbnaaDoor.TxtS Go.Proofs.YtomkldkmaabbnaaDoor.TxtT Go.Proofs.YtomkldkmaabbnaaDoor.TxtX Go.Proofs.YtomkldkmaabbnaaDoor.TxtK Go.Proofs.YtomkldkmaabbnaaDoor.WalkA Go.Proofs.YtomkldkmaabbnaaDoor.TrkA Go.Proofs.YtomkldkmaabbnaaDoor.TrkB Go.Proofs.YtomkldkmaabbnaaDoor.TrkC Go.Proofs.YtomkldkmaabbnaaDoor.TrkD

theorem head_size {lf lu : Int} (h1 : 0 ≤ lf ∧ lf ≤ 3000000) (h2 : 0 ≤ lu ∧ lu ≤ 3000000) : (headW lf lu).size ≤ 48 := by
  have a := dec_size (n := lf) (by omega) (by omega)
  have b := dec_size (n := lu) (by omega) (by omega)
  unfold headW
  rw [ByteArray.size_append, ByteArray.size_append, ByteArray.size_append]
  show 5 + _ + 1 + _ ≤ 48
  omega
theorem sec_size {l : List (Int × Int)} (hg : GoodL l) {k : Nat} (hk : k < l.length) : (secW l k).size ≤ 44 := by
  have h := hg.2 k hk
  have a := dec_size (n := secL l k) (by omega) (by omega)
  have b := dec_size (n := secG l k) (by omega) (by omega)
  unfold secW
  rw [ByteArray.size_append, ByteArray.size_append, ByteArray.size_append]
  show 1 + _ + 1 + _ ≤ 44
  omega
theorem tkTo_size {l : List (Int × Int)} {lf lu : Int} (hg : GoodL l) (h1 : 0 ≤ lf ∧ lf ≤ 3000000) (h2 : 0 ≤ lu ∧ lu ≤ 3000000) : ∀ k, k ≤ l.length → (tkTo l lf lu k).size ≤ 48 + 44 * k
  | 0, _ => head_size h1 h2
  | k + 1, hk => by
    have ih := tkTo_size (lf := lf) (lu := lu) hg h1 h2 k (by omega)
    have s := sec_size hg (k := k) (by omega)
    show (tkTo l lf lu k ++ secW l k).size ≤ _
    rw [ByteArray.size_append]
    omega
/-- The words of a track: the head, then the sections. -/
def wordsK (l : List (Int × Int)) (lf lu : Int) (k : Nat) : List ByteArray := headW lf lu :: (List.range k).map fun i => pairW 64 (secL l i) (secG l i)
theorem wordsK_succ (l : List (Int × Int)) (lf lu : Int) (k : Nat) : wordsK l lf lu (k + 1) = wordsK l lf lu k ++ [pairW 64 (secL l k) (secG l k)] := by
  unfold wordsK
  rw [List.range_succ, List.map_append, List.map_singleton, List.cons_append]
theorem wordsK_len (l : List (Int × Int)) (lf lu : Int) (k : Nat) : (wordsK l lf lu k).length = k + 1 := by simp [wordsK]
theorem wordsK_join (l : List (Int × Int)) (lf lu : Int) (k : Nat) : Lib.join ((wordsK l lf lu k).map (·.data.toList)) [32] = dl (tkTo l lf lu k) := by
  rw [tkTo_dl]
  have e : (wordsK l lf lu k).map (·.data.toList) = dl (headW lf lu) :: pairs l k := by
    unfold wordsK pairs
    rw [List.map_cons, List.map_map]
    rfl
  have h : dl (headW lf lu) = dl loopW ++ 32 :: dl (pairW 44 lf lu) := by
    have := tkTo_dl l lf lu 0
    have e2 : pairs l 0 = [] := rfl
    rw [e2, TxtQ.join_two, Lib.join_one] at this
    exact this
  rw [e, TxtQ.join_two, Lib.join_cons, Lib.join_cons, h, List.append_assoc]
  rfl
theorem keep3 {p : Nat} {W wc w2 : World} {v0 v1 v2 : Value} (hp : p < W.heap.size) (h0 : wc.cell? ⟨p, 0, none⟩ = some v0) (h1 : wc.cell? ⟨p, 1, none⟩ = some v1) (h2 : wc.cell? ⟨p, 2, none⟩ = some v2) (hb : Below W.heap.size W wc) (h : Below wc.heap.size wc w2) :
    w2.cell? ⟨p, 0, none⟩ = some v0 ∧ w2.cell? ⟨p, 1, none⟩ = some v1 ∧ w2.cell? ⟨p, 2, none⟩ = some v2 ∧ Below W.heap.size W w2 :=
  have a := hb.size
  ⟨(h.cell (p := ⟨p, 0, none⟩) (Nat.lt_of_lt_of_le hp a)).trans h0, (h.cell (p := ⟨p, 1, none⟩) (Nat.lt_of_lt_of_le hp a)).trans h1, (h.cell (p := ⟨p, 2, none⟩) (Nat.lt_of_lt_of_le hp a)).trans h2, hb.trans (h.mono a)⟩
theorem keep5 {p q o1 o2 : Nat} {W wc w2 : World} {v0 u0 u1 : Value} (hp : p < W.heap.size) (hq : q < W.heap.size) (h0 : wc.cell? ⟨p, 0, none⟩ = some v0)
    (k0 : wc.cell? ⟨q, o1, none⟩ = some u0) (k1 : wc.cell? ⟨q, o2, none⟩ = some u1) (hb : Below W.heap.size W wc) (h : Below wc.heap.size wc w2) :
    w2.cell? ⟨p, 0, none⟩ = some v0 ∧ w2.cell? ⟨q, o1, none⟩ = some u0 ∧ w2.cell? ⟨q, o2, none⟩ = some u1 ∧ Below W.heap.size W w2 :=
  have hp' := Nat.lt_of_lt_of_le hp hb.size
  have hq' := Nat.lt_of_lt_of_le hq hb.size
  ⟨(h.cell (p := ⟨p, 0, none⟩) hp').trans h0, (h.cell (p := ⟨q, o1, none⟩) hq').trans k0, (h.cell (p := ⟨q, o2, none⟩) hq').trans k1, hb.trans (h.mono hb.size)⟩
/-- Sums of texts, as equations on the model's run. -/
def Sum (a b c : ByteArray) : Prop := ∀ W, (Op.stringOp .add a b).run Tryd.prog W = .ok (.string c) W
theorem Sum.mk {a b : ByteArray} (h : a.size + b.size ≤ 140737488355328) : Sum a b (a ++ b) := fun W => run_string_add_sum W a b (by omega)

theorem keepc {q : Nat} {W w2 : World} {v0 v1 : Value} (h : Below W.heap.size W w2) (h0 : W.cell? ⟨q, 0, none⟩ = some v0) (h1 : W.cell? ⟨q, 1, none⟩ = some v1) (hq : q < W.heap.size) :
    w2.cell? ⟨q, 0, none⟩ = some v0 ∧ w2.cell? ⟨q, 1, none⟩ = some v1 ∧ q < w2.heap.size :=
  ⟨(h.cell (p := ⟨q, 0, none⟩) hq).trans h0, (h.cell (p := ⟨q, 1, none⟩) hq).trans h1, Nat.lt_of_lt_of_le hq h.size⟩
theorem keepg {q : Nat} {W w2 : World} {r : Option Nat} {v0 v1 : Value} (h : W.grownBy w2 r) (hr : ∀ k, r = some k → k ≠ q) (h0 : W.cell? ⟨q, 0, none⟩ = some v0) (h1 : W.cell? ⟨q, 1, none⟩ = some v1) (hq : q < W.heap.size) :
    w2.cell? ⟨q, 0, none⟩ = some v0 ∧ w2.cell? ⟨q, 1, none⟩ = some v1 ∧ q < w2.heap.size := by
  have hb : w2.heap[q]? = W.heap[q]? := h.block q hq (fun e => hr q e.symm rfl)
  have c : ∀ o, w2.cell? ⟨q, o, none⟩ = W.cell? ⟨q, o, none⟩ := fun o => by simp [World.cell?, hb]
  exact ⟨(c 0).trans h0, (c 1).trans h1, Nat.lt_of_lt_of_le hq h.size⟩
theorem OwnS.one (w : World) (x : ByteArray) : OwnS (w.alloc (.cells #[.string x] 9)) w.heap.size (.slice (some ⟨w.heap.size, 0, none⟩) 1 1) [x] := World.ownsRow_lit w #[.string x] 1 (Nat.le_refl _) (by unfold maxLen; omega) rfl
theorem OwnS.mono {W : World} {B B' : Nat} {v : Value} {l : List ByteArray} (h : OwnS W B v l) (hb : B' ≤ B) : OwnS W B' v l := World.ownsRow.mono h hb
set_option maxHeartbeats 1000000 in
theorem implTrackText_any (A : Option Addr) (n c : Nat) (lf lu : Int) (l : List (Int × Int)) (w : World) (hs : Secs w w.heap.size A n l) (hn : n ≤ 1048576) (ht : Tab w) :
    Calls Tryd.prog 16 #[.agg #[.slice A n c, .int .i64 lf, .int .i64 lu]] w fun e w' => e = .returned (.string (trackP l lf lu)) ∧ Below w.heap.size w w' := by
  obtain ⟨q0, q1, q2, q3, q4⟩ := boxed w 24 (.slice A n c) (.int .i64 lf) (.int .i64 lu)
  have HV := Lib.hid (implValidTrack_any A n c lf lu l _ (hs.below q3 q3.size) hn)
  obtain ⟨i0, hi, hz0, hz1, hz2⟩ := info_parts info_str
  have HB := Lib.hid q3
  have HZ := Lib.hid q4
  have HC := Lib.hid (And.intro q0 (And.intro q1 q2))
  unfold trackP
  cases hv : trackB l lf lu
  · rw [hv] at HV
    rw [if_neg (by decide)]
    clear hi hz0 hz1 hz2 ht hs
    go_enter Tryd.func16, Tryd.ntmps16
    go_wp2_with fail
    refine HV.out.mono ?_
    rintro e w1 ⟨rfl, hb⟩
    go_wp2_with fail
    go_ret
    exact ⟨rfl, HB.out.trans (hb.mono (by have := HZ.out; omega))⟩
  · rw [hv] at HV
    rw [if_pos rfl]
    have hval := trackB_iff.1 hv
    have hg := hval.good
    have hlen := hval.len
    have hf := hval.from_
    have hu := hval.until_
    have hl3 := lenAll_bds hg
    have HTS := Lib.hid (tkTo_size (l := l) (lf := lf) (lu := lu) hg (by omega) (by omega))
    have HD1 := Lib.hid (fun W (hb : Below w.heap.size w W) => implDecimal_any lf (by omega) (by omega) W (ht.below hb))
    have HD2 := Lib.hid (fun W (hb : Below w.heap.size w W) => implDecimal_any lu (by omega) (by omega) W (ht.below hb))
    have s1 := dec_size (n := lf) (by omega) (by omega)
    have s2 := dec_size (n := lu) (by omega) (by omega)
    obtain ⟨P1, hP1⟩ : ∃ P1, P1 = (⟨#[108, 111, 111, 112, 32]⟩ : ByteArray) ++ dec lf := ⟨_, rfl⟩
    obtain ⟨P2, hP2⟩ : ∃ P2, P2 = P1 ++ (⟨#[44]⟩ : ByteArray) := ⟨_, rfl⟩
    obtain ⟨P3, hP3⟩ : ∃ P3, P3 = P2 ++ dec lu := ⟨_, rfl⟩
    have z1 : P1.size ≤ 26 := by rw [hP1, ByteArray.size_append]; show 5 + _ ≤ _; omega
    have z2 : P2.size ≤ 27 := by rw [hP2, ByteArray.size_append]; show _ + 1 ≤ _; omega
    have A1 : Sum ⟨#[108, 111, 111, 112, 32]⟩ (dec lf) P1 := by rw [hP1]; exact Sum.mk (by show 5 + _ ≤ _; omega)
    have A2 : Sum P1 ⟨#[44]⟩ P2 := by rw [hP2]; exact Sum.mk (by show _ + 1 ≤ _; omega)
    have A3 : Sum P2 (dec lu) P3 := by rw [hP3]; exact Sum.mk (by omega)
    have HH : Hid (P3 = headW lf lu) := by show P3 = headW lf lu; rw [hP3, hP2, hP1]; rfl
    clear hP1 hP2 hP3 z1 z2 s1 s2
    unfold Sum at A1 A2 A3
    have hn12 := hg.1
    have HG := Lib.hid hg
    have HS := Lib.hid hs
    obtain ⟨rfl, _⟩ := hs
    have hlp : 1 ≤ l.length := hval.some_
    clear hg hval hlen hf hu hl3 hv q0 q1 q2 q3 q4
    generalize dec lf = d1 at *
    generalize dec lu = d2 at *
    go_enter Tryd.func16, Tryd.ntmps16
    go_wp2_with fail
    generalize w.alloc (.cells #[.slice A l.length c, .int .i64 lf, .int .i64 lu] 24) = W0 at *
    refine HV.out.mono ?_
    rintro e w1 ⟨rfl, hb⟩
    have hz : w.heap.size < W0.heap.size := by have := HZ.out; omega
    have HR := Lib.hid (keep3 hz HC.out.1 HC.out.2.1 HC.out.2.2 (Below.refl _ _) hb)
    obtain ⟨r0, r1, r2, _⟩ := HR.out
    have HB1 : Hid (Below w.heap.size w w1) := HB.out.trans (hb.mono (by omega))
    have hp1 : w.heap.size < w1.heap.size := by have := hb.size; omega
    clear hb
    have bb := Below.refl w1.heap.size w1
    have HBX : Hid (∀ wx : World, Below w1.heap.size w1 wx → Below w.heap.size w wx) := fun wx hx => HB1.out.trans (hx.mono HB1.out.size)
    go_wp2_with fail
    go_region_held3 (fun w' => w'.cell? ⟨w.heap.size, 0, none⟩ = some (.slice A l.length c) ∧ w'.cell? ⟨w.heap.size, 1, none⟩ = some (.int .i64 lf) ∧ w'.cell? ⟨w.heap.size, 2, none⟩ = some (.int .i64 lu) ∧ Below w1.heap.size w1 w')
      (first | exact ⟨r0, r1, r2, bb.drew⟩ | (go_split_ands; exact keep3 hp1 (by assumption) (by assumption) (by assumption) (by assumption) (by assumption)) | (go_split_ands; exact keep3 hp1 (by assumption) (by assumption) (by assumption) (by assumption) (below_alloc _ _)))
      (first | (go_at_call 27; (with_reducible refine (HD1.out _ (HBX.out _ (by go_split_ands; assumption))).mono ?_); rintro e w3 ⟨rfl, hb3⟩) | (go_at_call 27; (with_reducible refine (HD2.out _ (HBX.out _ (by go_split_ands; assumption))).mono ?_); rintro e w4 ⟨rfl, hb4⟩))
    have hw41 : w1.heap.size ≤ w4.heap.size := by
      have a : w1.heap.size ≤ w3.heap.size := hb3.size
      have b : w3.heap.size ≤ w4.heap.size := hb4.size
      omega
    have HO0 := Lib.hid (OwnS.mono (B' := w1.heap.size) (OwnS.one w4 P3) hw41)
    have HB4 : Hid (Below w1.heap.size w1 (w4.alloc (.cells #[.string P3] 9))) := by
      show Below w1.heap.size w1 (w4.alloc (.cells #[.string P3] 9))
      go_split_ands
      assumption
    have HX0 : Hid ([P3] = wordsK l lf lu 0) := by show [P3] = wordsK l lf lu 0; rw [HH.out]; rfl
    have HR0 := Lib.hid ((HB4.out.cell (p := ⟨w.heap.size, 0, none⟩) hp1).trans r0)
    clear HD1 HD2 A1 A2 A3 hb3 hb4 hw41 r0 r1 r2 HH
    have r0 := HR0.out
    generalize w4.alloc (.cells #[.string P3] 9) = W4 at *
    generalize hPL : ([P3] : List ByteArray) = PL at *
    go_wp2_with fail
    go_loopw [3, 22] (fun v i wr => ∃ (k : Nat) (xs : List ByteArray), k ≤ l.length ∧ xs.length = k + 1 ∧ i = .int .i64 k ∧ Hid (xs = wordsK l lf lu k) ∧ Hid (Below w1.heap.size w1 wr) ∧ Hid (OwnS wr w1.heap.size v xs)) (fun _ i _ => l.length - (intOf i).toNat)
    case atStart => exact ⟨0, PL, Nat.zero_le _, by rw [← hPL]; rfl, rfl, HX0.out, HB4.out, HO0.out⟩
    case round =>
      obtain ⟨k, xs, hk, hxl, rfl, hxs, hbr, hox⟩ := hrel
      have HBW := Lib.hid (HBX.out _ hbr.out)
      have hwr := HBW.out.size
      by_cases hlt : k < l.length
      · obtain ⟨bb, off, rfl, hbb, hc⟩ := (HS.out.below HBW.out hwr).2 (by omega)
        obtain ⟨k0, k1⟩ := hc k hlt
        clear hc
        have hz := HG.out.2 k hlt
        have HD1 := Lib.hid (fun W (h : Tab W) => implDecimal_any (secL l k) (by omega) (by omega) W h)
        have HD2 := Lib.hid (fun W (h : Tab W) => implDecimal_any (secG l k) (by omega) (by omega) W h)
        have s1 := dec_size (n := secL l k) (by omega) (by omega)
        have s2 := dec_size (n := secG l k) (by omega) (by omega)
        obtain ⟨Q1, hQ1⟩ : ∃ Q1, Q1 = dec (secL l k) ++ (⟨#[64]⟩ : ByteArray) := ⟨_, rfl⟩
        obtain ⟨Q2, hQ2⟩ : ∃ Q2, Q2 = Q1 ++ dec (secG l k) := ⟨_, rfl⟩
        have z1 : Q1.size ≤ 22 := by rw [hQ1, ByteArray.size_append]; show _ + 1 ≤ _; omega
        have A1 : Sum (dec (secL l k)) ⟨#[64]⟩ Q1 := by rw [hQ1]; exact Sum.mk (by show _ + 1 ≤ _; omega)
        have A2 : Sum Q1 (dec (secG l k)) Q2 := by rw [hQ2]; exact Sum.mk (by omega)
        have HXN : Hid (xs ++ [Q2] = wordsK l lf lu (k + 1)) := by
          show xs ++ [Q2] = wordsK l lf lu (k + 1)
          rw [wordsK_succ, hxs.out, hQ2, hQ1]
          rfl
        clear hQ1 hQ2 z1 s1 s2 hz
        unfold Sum at A1 A2
        generalize dec (secL l k) = d1 at *
        generalize dec (secG l k) = d2 at *
        generalize secL l k = x at *
        generalize secG l k = y at *
        have HQB := Lib.hid (below_alloc wr (.cells #[.int .i64 x, .int .i64 y] 35))
        have hq : wr.heap.size < (wr.alloc (.cells #[.int .i64 x, .int .i64 y] 35)).heap.size := by simp
        have e0 : (wr.alloc (.cells #[.int .i64 x, .int .i64 y] 35)).cell? ⟨wr.heap.size, 0, none⟩ = some (.int .i64 x) := cell_of_row _ _ 0 _ _ _ (heap_alloc_new wr _)
        have e1 : (wr.alloc (.cells #[.int .i64 x, .int .i64 y] 35)).cell? ⟨wr.heap.size, 1, none⟩ = some (.int .i64 y) := cell_of_row _ _ 1 _ _ _ (heap_alloc_new wr _)
        have HOB := Lib.hid (hox.out.below HQB.out)
        have HTB := Lib.hid (ht.below (HBW.out.trans (HQB.out.mono hwr)))
        have HNE := Lib.hid (fun k (h : _ = some k) => show k ≠ wr.heap.size from Nat.ne_of_lt (World.ownsRow.lt hox.out k h).2)
        have HUP := Lib.hid (OwnS.up hox.out)
        have HBB := Lib.hid (hbr.out.trans (HQB.out.mono hbr.out.size))
        clear HQB
        go_wp2_with fail
        generalize wr.alloc (.cells #[.int .i64 x, .int .i64 y] 35) = WB at *
        have HOB2 : Hid (OwnS WB.drew w1.heap.size _ xs) := HOB.out
        have HTB2 : Hid (Tab WB.drew) := HTB.out
        have m1 : xs.length + 1 ≤ maxLen := by unfold maxLen; omega
        have m2 : (xs.length + 1) * 16 ≤ 140737488355328 := by omega
        have hwb := HBB.out.size
        go_region_held3 (fun w' => w'.cell? ⟨wr.heap.size, 0, none⟩ = some (.int .i64 x) ∧ w'.cell? ⟨wr.heap.size, 1, none⟩ = some (.int .i64 y) ∧ wr.heap.size < w'.heap.size)
          (first | exact ⟨e0, e1, hq⟩ | (go_split_ands; first | exact keepg hgrow HNE.out (by assumption) (by assumption) (by assumption) | exact keepc (below_alloc _ _) (by assumption) (by assumption) (by assumption) | exact keepc hb6 (by assumption) (by assumption) (by assumption) | exact keepc hb5 (by assumption) (by assumption) (by assumption)))
          (first
            | (go_at_call 27; (with_reducible refine (HD1.out _ (by first | exact HTB.out | exact HTB2.out)).mono ?_); rintro e w5 ⟨rfl, hb5⟩; have HO5 : Hid (OwnS w5 w1.heap.size _ xs) := (by first | exact OwnS.below HOB.out hb5 | exact OwnS.below HOB2.out hb5); have HT5 : Hid (Tab w5) := (by first | exact Tab.below HTB.out hb5 | exact Tab.below HTB2.out hb5); have hs5 : WB.heap.size ≤ w5.heap.size := hb5.size; have HB5 : Hid (Below w1.heap.size w1 w5) := (by first | exact HBB.out.trans (hb5.mono hwb) | exact HBB.out.drew.trans (hb5.mono hwb)))
            | (go_at_call 27; (with_reducible refine (HD2.out _ HT5.out).mono ?_); rintro e w6 ⟨rfl, hb6⟩; have HO6 := Lib.hid (OwnS.below HO5.out hb6); have hs6 : w5.heap.size ≤ w6.heap.size := hb6.size; have HB6 := Lib.hid (HB5.out.trans (hb6.mono HB5.out.size)))
            | ((refine step_append_lies _ (by rfl) (.tmp 26) (.tmp 35) 30 (by rfl) w1.heap.size 9 i0 (.string ByteArray.empty) 1 16 Tryd.underlying30 hi hz0 hz1 hz2 rfl (by decide) _ xs.length (xs.map Value.string) (by rfl) (World.ownsRow.alloc HO6.out _) ⟨_, 0, none⟩ 1 1 [.string Q2] (by rfl) (by rfl) (World.news_of_block (heap_alloc_new w6 (.cells #[.string Q2] 9))) (by intro u hu; simp at hu; subst hu; rfl) (by decide) m1 m2 (by simp; omega) _ rfl ?_; intro gc capc w7 hown hgrow hat hltc; have HN : Hid (OwnS w7 w1.heap.size (.slice (some ⟨gc, 0, none⟩) (k + 1 + 1) capc) (xs ++ [Q2])) := OwnS.snoc' hxl (by rw [← hxl]; exact hown); have HN2 := Lib.hid (HB6.out.trans (((below_alloc w6 _).mono HB6.out.size).trans (grown_over hgrow HUP.out (by simp; omega)))))))
        all_goals
          clear HD1 HD2 A1 A2
          go_wp2
          go_roundw
          case rel => exact ⟨k + 1, xs ++ [Q2], by omega, by rw [List.length_append, hxl]; rfl, by go_num, HXN.out, HN2.out, HN.out⟩
          case measure => simp [intOf]; omega
      · have e : k = l.length := by omega
        subst e
        clear hi hz0 hz1 hz2
        obtain ⟨g, cap, rfl, hcap, hg, hcells⟩ := hox.out.form (by omega)
        have ej : Lib.join (xs.map (·.data.toList)) [32] = dl (trackQ l lf lu) := by rw [hxs.out, wordsK_join]; rfl
        have hts := HTS.out l.length (Nat.le_refl _)
        have hlj : (dl (trackQ l lf lu)).length ≤ 140737488355328 := by show (trackQ l lf lu).size ≤ _; unfold trackQ; omega
        have HJ := Lib.hid (Tryd.strings_Join g 0 cap xs ⟨#[32]⟩ wr hcells hg (by omega) hcap (by show (Lib.join _ [32]).length ≤ _; rw [ej]; exact hlj))
        rw [show (ByteArray.mk #[32]).data.toList = [32] from rfl, ej] at HJ
        have et : (⟨(dl (trackQ l lf lu)).toArray⟩ : ByteArray) = trackQ l lf lu := dl_inj (by show (List.toArray _).toList = _; simp)
        rw [et, hxl] at HJ
        rw [hxl] at hcap ⊢
        clear hcells ej hts hlj et
        go_wp2_with fail
        refine HJ.out.mono ?_
        rintro e w5 ⟨rfl, hb5⟩
        have HB5 := Lib.hid (HBW.out.trans (hb5.mono hwr))
        clear hb5
        go_wp2_with fail
        go_ret
        exact ⟨rfl, HB5.out⟩
end Go.Proofs.YtomkldkmaabbnaaDoor.TkA
