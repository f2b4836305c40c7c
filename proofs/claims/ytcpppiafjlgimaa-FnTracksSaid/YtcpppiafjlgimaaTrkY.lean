/- A track from the top: the program's walk. -/
import Derived.Test.YtcpppiafjlgimaaTrkY0
import Derived.Deep.RegionHeld3
import Derived.Deep.RegionLaw
import Derived.Deep.DrawnRows
namespace Go.Proofs.Ytcpppiafjlgimaa.TrkY
open Go.RowKit Go.Proofs.Ytcpppiafjlgimaa.Plain Go.Proofs.Ytcpppiafjlgimaa.TrkP Go.Proofs.Ytcpppiafjlgimaa.WalkA Go.Proofs.Ytcpppiafjlgimaa.TrkA Go.Proofs.Ytcpppiafjlgimaa.TrkB Go.Proofs.Ytcpppiafjlgimaa.TrkC Go.Proofs.Ytcpppiafjlgimaa.TrkD Go.Proofs.Ytcpppiafjlgimaa.TrkE Go.Proofs.Ytcpppiafjlgimaa.TrkR Go.Proofs.Ytcpppiafjlgimaa.TrkS Go.Proofs.Ytcpppiafjlgimaa.TrkT Go.Proofs.Ytcpppiafjlgimaa.TrkX Go.Proofs.Ytcpppiafjlgimaa.TrkY0

theorem keep3 {p : Nat} {W wc w2 : World} {v0 v1 v2 : Value} (hp : p < W.heap.size) (h0 : wc.cell? ⟨p, 0, none⟩ = some v0) (h1 : wc.cell? ⟨p, 1, none⟩ = some v1) (h2 : wc.cell? ⟨p, 2, none⟩ = some v2) (hb : Below W.heap.size W wc) (h : Below wc.heap.size wc w2) :
    w2.cell? ⟨p, 0, none⟩ = some v0 ∧ w2.cell? ⟨p, 1, none⟩ = some v1 ∧ w2.cell? ⟨p, 2, none⟩ = some v2 ∧ Below W.heap.size W w2 :=
  have a := hb.size
  ⟨(h.cell (p := ⟨p, 0, none⟩) (Nat.lt_of_lt_of_le hp a)).trans h0, (h.cell (p := ⟨p, 1, none⟩) (Nat.lt_of_lt_of_le hp a)).trans h1, (h.cell (p := ⟨p, 2, none⟩) (Nat.lt_of_lt_of_le hp a)).trans h2, hb.trans (h.mono a)⟩
/-- What the region's calls read, and where its blocks lie. -/
def TS (w1 : World) (p : Nat) (v0 v1 v2 : Value) (W : World) : Prop := W.cell? ⟨p, 0, none⟩ = some v0 ∧ W.cell? ⟨p, 1, none⟩ = some v1 ∧ W.cell? ⟨p, 2, none⟩ = some v2 ∧ Below w1.heap.size w1 W
/-- The zero track that the region has laid in block P. -/
def ZR (w1 W : World) (P : Nat) : Prop := RowAt W P 26 #[.slice none 0 0, .int .i64 0, .int .i64 0] ∧ w1.heap.size ≤ P
theorem ZR.new (w1 W : World) (h : w1.heap.size ≤ W.heap.size) : ZR w1 (W.alloc (.cells #[.slice none 0 0, .int .i64 0, .int .i64 0] 26)) W.heap.size := ⟨RowAt.new _ _ _, h⟩
theorem ZR.next {w1 W W' : World} {P : Nat} (h : ZR w1 W P) (hb : Below W.heap.size W W') : ZR w1 W' P := ⟨h.1.below hb h.1.lt, h.2⟩
/-- The track that the region has filled, in block P. -/
def FR (w1 W : World) (P : Nat) (a b c : Value) : Prop := RowAt W P 26 #[a, b, c] ∧ w1.heap.size ≤ P
theorem ZR.fill {w1 W : World} {P : Nat} (h : ZR w1 W P) (a b c : Value) : FR w1 (((W.setCell ⟨P, 0, none⟩ a).setCell ⟨P, 1, none⟩ b).setCell ⟨P, 2, none⟩ c) P a b c := ⟨((h.1.store 0 a).store 1 b).store 2 c, h.2⟩
theorem FR.new (w1 W : World) (h : w1.heap.size ≤ W.heap.size) (a b c : Value) : FR w1 (W.alloc (.cells #[a, b, c] 26)) W.heap.size a b c := ⟨RowAt.new _ _ _, h⟩
theorem OwnT.three {W : World} {B : Nat} {A : Option Addr} {n P : Nat} {l : List (Int × Int)} (h : OwnT W B A n l) {cs : Array Value} (hr : RowAt W P 26 cs) (a b c : Value) : OwnT (((W.setCell ⟨P, 0, none⟩ a).setCell ⟨P, 1, none⟩ b).setCell ⟨P, 2, none⟩ c) B A n l :=
  ⟨h.1, fun hn => by
    obtain ⟨g, cs', e, hB, hg, hs, hc⟩ := h.2 hn
    have hne : P ≠ g := by
      rintro rfl
      unfold RowAt at hr hg
      rw [hr] at hg
      injection hg with hg
      injection hg with _ hg
      exact absurd hg (by decide)
    exact ⟨g, cs', e, hB, ((hg.far hne _).far hne _).far hne _, hs, hc⟩⟩
theorem own_ne {W : World} {B g n P : Nat} {l : List (Int × Int)} (h : OwnT W B (some ⟨g, 0, none⟩) n l) (hn : 0 < n) {cs : Array Value} (hr : RowAt W P 26 cs) : g ≠ P ∧ B ≤ g := by
  obtain ⟨g', cs', e, hB, hg, hs, hc⟩ := h.2 hn
  injection e with e
  injection e with e
  subst e
  refine ⟨?_, hB⟩
  rintro rfl
  unfold RowAt at hr hg
  rw [hr] at hg
  injection hg with hg
  injection hg with _ hg
  exact absurd hg (by decide)
theorem ts_bel {w1 W : World} {p : Nat} {v0 v1 v2 : Value} (h : TS w1 p v0 v1 v2 W) : Below w1.heap.size w1 W := h.2.2.2
/-- Behind the reversal: the track in block P, the result's block, the sections. -/
theorem turn_tail {w1 WF w5 : World} {P g n p2 : Nat} {a b c : Value} {cs2 : Array Value} {l : List (Int × Int)} (hn : 0 < n) (hF : FR w1 WF P a b c) (hO : OwnT WF w1.heap.size (some ⟨g, 0, none⟩) n l) (hB : Below w1.heap.size w1 WF) (h2 : RowAt w1 p2 26 cs2) (hgr : WF.grownBy w5 (some g)) :
    RowAt w5 P 26 #[a, b, c] ∧ RowAt w5 p2 26 cs2 ∧ Below w1.heap.size w1 w5 := by
  obtain ⟨hne, hge⟩ := own_ne hO hn hF.1
  have b5 : Below w1.heap.size WF w5 := grown_up hgr (fun k hk => by injection hk with hk; omega) hB.size
  exact ⟨RowAt.grown hF.1 hgr (fun e => hne (by injection e)), (h2.below hB h2.lt).below b5 h2.lt, hB.trans b5⟩
theorem ts_next {w1 W W' : World} {p : Nat} {v0 v1 v2 : Value} (hp : p < w1.heap.size) (h : TS w1 p v0 v1 v2 W) (hb : Below W.heap.size W W') : TS w1 p v0 v1 v2 W' := keep3 hp h.1 h.2.1 h.2.2.1 h.2.2.2 hb
theorem ts_alloc {w1 W : World} {p : Nat} {v0 v1 v2 : Value} (hp : p < w1.heap.size) (h : TS w1 p v0 v1 v2 W) (o : Obj) : TS w1 p v0 v1 v2 (W.alloc o) := ts_next hp h ((Below.refl _ _).alloc (Nat.le_refl _) o)
theorem ts_fill {w1 W : World} {p P : Nat} {v0 v1 v2 : Value} (hp : p < w1.heap.size) (h : TS w1 p v0 v1 v2 W) (hz : ZR w1 W P) (a b c : Value) : TS w1 p v0 v1 v2 (((W.setCell ⟨P, 0, none⟩ a).setCell ⟨P, 1, none⟩ b).setCell ⟨P, 2, none⟩ c) := by
  have k : Below w1.heap.size W (((W.setCell ⟨P, 0, none⟩ a).setCell ⟨P, 1, none⟩ b).setCell ⟨P, 2, none⟩ c) := (((Below.refl _ W).setCell hz.2 a).setCell hz.2 b).setCell hz.2 c
  exact ⟨(k.cell (p := ⟨p, 0, none⟩) hp).trans h.1, (k.cell (p := ⟨p, 1, none⟩) hp).trans h.2.1, (k.cell (p := ⟨p, 2, none⟩) hp).trans h.2.2.1, h.2.2.2.trans k⟩
theorem ts_swap {w1 W : World} {p : Nat} {v0 v1 v2 : Value} {o1 : Obj} (hp : p < w1.heap.size) (hsz : w1.heap.size ≤ W.heap.size) (h : TS w1 p v0 v1 v2 (W.alloc o1)) (o2 : Obj) : TS w1 p v0 v1 v2 (W.alloc o2) := by
  have a1 := (Below.refl W.heap.size W).alloc (Nat.le_refl _) o1
  have a2 := (Below.refl W.heap.size W).alloc (Nat.le_refl _) o2
  have hb : p < W.heap.size := by omega
  have e : ∀ i, (W.alloc o2).cell? ⟨p, i, none⟩ = (W.alloc o1).cell? ⟨p, i, none⟩ := fun i => (a2.cell (p := ⟨p, i, none⟩) hb).trans (a1.cell (p := ⟨p, i, none⟩) hb).symm
  exact ⟨(e 0).trans h.1, (e 1).trans h.2.1, (e 2).trans h.2.2.1, h.2.2.2.os, h.2.2.2.tape, h.2.2.2.output, by simp; omega, fun k hk => (a2.block k (by omega)).trans ((a1.block k (by omega)).symm.trans (h.2.2.2.block k hk))⟩
set_option maxHeartbeats 16000000 in
theorem implTurn_any (A : Option Addr) (n c : Nat) (lf lu : Int) (l : List (Int × Int)) (w : World) (hs : Secs w w.heap.size A n l) (hn : n ≤ 1048576) :
    Calls Try.prog 17 #[.agg #[.slice A n c, .int .i64 lf, .int .i64 lu]] w (NewTrk w (turnL l lf lu) (turnF l lf lu) (turnU l lf lu) (cI (trackB l lf lu))) := by
  have HV := Lib.hid (fun W (hW : Below w.heap.size w W) => implValidTrack_any A n c lf lu l W (hs.below hW hW.size) hn)
  have HS := Lib.hid (fun W (hW : Below w.heap.size w W) => hs.below hW hW.size)
  have HR := Lib.hid (rows_two w 26 26 #[.slice A n c, .int .i64 lf, .int .i64 lu] #[.slice none 0 0, .int .i64 0, .int .i64 0])
  have HB := Lib.hid (((Below.refl w.heap.size w).alloc (Nat.le_refl _) (.cells #[.slice A n c, .int .i64 lf, .int .i64 lu] 26)).alloc (by simp) (.cells #[.slice none 0 0, .int .i64 0, .int .i64 0] 26))
  have hz0 : ((w.alloc (.cells #[.slice A n c, .int .i64 lf, .int .i64 lu] 26)).alloc (.cells #[.slice none 0 0, .int .i64 0, .int .i64 0] 26)).heap.size = w.heap.size + 2 := by simp
  have HZ := Lib.hid hz0
  have HLN := Lib.hid hs.1
  clear hz0 hs
  cases hv : trackB l lf lu
  · have HF := Lib.hid (turn_bad hv)
    rw [hv] at HV HF
    go_enter Try.func17, Try.ntmps17
    go_wp2_with fail
    generalize (w.alloc (.cells #[.slice A n c, .int .i64 lf, .int .i64 lu] 26)).alloc (.cells #[.slice none 0 0, .int .i64 0, .int .i64 0] 26) = W0 at *
    refine (HV.out _ HB.out).mono ?_
    rintro e w1 ⟨rfl, hb1⟩
    obtain ⟨r1, r2⟩ := HR.out
    have hz := HZ.out
    obtain ⟨b0, b1, b2, b3, b4, b5⟩ := (r2.below hb1 (by omega)).three
    have HB1 := Lib.hid (HB.out.trans (hb1.mono (by omega)))
    clear hb1 r1 r2 hz
    go_wp2
    refine bodyPost_ret (v := .tuple #[.agg #[.slice none 0 0, .int .i64 0, .int .i64 0], .int .i64 1]) (by simp [results, Try.results17, go_sem, b0, b1, b2]) rfl ?_
    refine NewTrk.as (l' := []) ⟨none, 0, rfl, ⟨rfl, fun h => absurd h (by simp)⟩, ?_⟩ HF.out
    exact ((HB1.out.setCell (by simp) _).setCell (by simp) _).setCell (by simp) _
  · have HF := Lib.hid (turn_ok hv)
    rw [hv] at HV HF
    have hval := trackB_iff.1 hv
    have hg := hval.good
    have hn0 : 0 < n := by have := HLN.out; have := hval.len; exact Nat.pos_of_ne_zero (fun e => by rw [trackB_short (by omega)] at hv; cases hv)
    have HC := Lib.hid (fun W (hW : Below w.heap.size w W) => clone_any A n c l W (HS.out W hW) hn0 hn)
    have HL := Lib.hid (fun W (hW : Below w.heap.size w W) => implLength_any A n c lf lu l W (HS.out W hW) hg)
    obtain ⟨x1, x2⟩ := hval.from_
    obtain ⟨y1, y2⟩ := hval.until_
    have hlen := hval.len
    have hl0 := (lenAll_bds hg).1
    clear hg hval hv
    go_enter Try.func17, Try.ntmps17
    go_wp2_with fail
    generalize (w.alloc (.cells #[.slice A n c, .int .i64 lf, .int .i64 lu] 26)).alloc (.cells #[.slice none 0 0, .int .i64 0, .int .i64 0] 26) = W0 at *
    refine (HV.out _ HB.out).mono ?_
    rintro e w1 ⟨rfl, hbd⟩
    have hz := HZ.out
    have R1 := Lib.hid (HR.out.1.below hbd (by omega))
    have R2 := Lib.hid (HR.out.2.below hbd (by omega))
    have HB1 := Lib.hid (HB.out.trans (hbd.mono (by omega)))
    have h12 : w.heap.size + 1 < w1.heap.size := by have := hbd.size; omega
    clear hbd hz
    obtain ⟨q0, q1, q2, _, _, _⟩ := R1.out.three
    have hp : w.heap.size < w1.heap.size := by omega
    have HB2 : Hid (∀ W, Below w1.heap.size w1 W → Below w.heap.size w W) := fun W hW => HB1.out.trans (hW.mono HB1.out.size)
    generalize hLL : lenAll l = L at *
    clear hLL
    have k1 : IntKind.i64.wrap (L - lu) = L - lu := IntWalk.i64_in _ (by omega)
    have k2 : IntKind.i64.wrap (L - lf) = L - lf := IntWalk.i64_in _ (by omega)
    have HSZ : Hid (w1.heap.size ≤ w1.drew.heap.size) := Nat.le_refl _
    have hn1 := fun (W : World) => (RowAt.new W 26 #[.slice none 0 0, .int .i64 0, .int .i64 0]).three
    have hna := fun W => (hn1 W).1
    have hnb := fun W => (hn1 W).2.1
    have hnc := fun W => (hn1 W).2.2.1
    have hnd := fun W => (hn1 W).2.2.2.1
    have hne := fun W => (hn1 W).2.2.2.2.1
    have hnf := fun W => (hn1 W).2.2.2.2.2
    clear hn1
    go_wp2
    go_region_held3 (fun w' => w'.cell? ⟨w.heap.size, 0, none⟩ = some (.slice A n c) ∧ w'.cell? ⟨w.heap.size, 1, none⟩ = some (.int .i64 lf) ∧ w'.cell? ⟨w.heap.size, 2, none⟩ = some (.int .i64 lu) ∧ Below w1.heap.size w1 w')
      (first | exact ⟨q0, q1, q2, (Below.refl _ _).drew⟩ | exact ts_alloc hp (by assumption) _ | exact ts_next hp (by assumption) (by assumption) | exact ts_swap hp HSZ.out (by assumption) _ | exact ts_fill hp (by assumption) HRA.out _ _ _)
      (first | (go_at_call 33; refine (HC.out (World.alloc _ (.cells #[.slice none 0 0, .int .i64 0, .int .i64 0] 26)) ?_).mono ?_; (exact HB2.out _ (by go_split_ands; assumption)); rintro e wc ⟨g, cp, rfl, hown, hbX⟩; have HRA := Lib.hid (ZR.next (ZR.new w1 _ HSZ.out) hbX); obtain ⟨z0, z1, z2, z3, z4, z5⟩ := HRA.out.1.three; have HSZ2 := Lib.hid (Nat.le_trans HSZ.out (Nat.le_trans (Nat.le_succ _) (Nat.le_trans (Nat.le_of_eq (World.size_alloc _ _).symm) hbX.size))); clear HSZ; have HSZ := HSZ2; clear HSZ2; have HOWN := Lib.hid (OwnT.mono (B' := w1.heap.size) hown (ts_bel (w1 := w1) (p := w.heap.size) (v0 := .slice A n c) (v1 := .int .i64 lf) (v2 := .int .i64 lu) (by assumption)).size); clear hown) | (go_at_call 33; refine (HC.out _ ?_).mono ?_; (exact HB2.out _ (by go_split_ands; assumption)); rintro e wc ⟨g, cp, rfl, hown, hbX⟩; have HRA2 := Lib.hid (ZR.next HRA.out hbX); clear HRA z0 z1 z2 z3 z4 z5; have HRA := HRA2; clear HRA2; obtain ⟨z0, z1, z2, z3, z4, z5⟩ := HRA.out.1.three; have HSZ2 := Lib.hid (Nat.le_trans HSZ.out hbX.size); clear HSZ; have HSZ := HSZ2; clear HSZ2; have HOWN := Lib.hid (OwnT.mono (B' := w1.heap.size) hown (ts_bel (w1 := w1) (p := w.heap.size) (v0 := .slice A n c) (v1 := .int .i64 lf) (v2 := .int .i64 lu) (by assumption)).size); clear hown) | (go_at_call 33; refine (HC.out _ ?_).mono ?_; (exact HB2.out _ (by go_split_ands; assumption)); rintro e wc ⟨g, cp, rfl, hown, hbX⟩; have HSZ2 := Lib.hid (Nat.le_trans HSZ.out hbX.size); clear HSZ; have HSZ := HSZ2; clear HSZ2; have HOWN := Lib.hid (OwnT.mono (B' := w1.heap.size) hown (ts_bel (w1 := w1) (p := w.heap.size) (v0 := .slice A n c) (v1 := .int .i64 lf) (v2 := .int .i64 lu) (by assumption)).size); clear hown) | (go_at_call 21; refine (HL.out (World.alloc _ (.cells #[.slice none 0 0, .int .i64 0, .int .i64 0] 26)) ?_).mono ?_; (exact HB2.out _ (by go_split_ands; assumption)); rintro e wl ⟨rfl, hbX⟩; have HRA := Lib.hid (ZR.next (ZR.new w1 _ HSZ.out) hbX); obtain ⟨z0, z1, z2, z3, z4, z5⟩ := HRA.out.1.three; have HSZ2 := Lib.hid (Nat.le_trans HSZ.out (Nat.le_trans (Nat.le_succ _) (Nat.le_trans (Nat.le_of_eq (World.size_alloc _ _).symm) hbX.size))); clear HSZ; have HSZ := HSZ2; clear HSZ2; have HOWN2 := Lib.hid (OwnT.below (OwnT.below HOWN.out ((Below.refl _ _).alloc (Nat.le_refl _) _)) hbX); clear HOWN; have HOWN := HOWN2; clear HOWN2) | (go_at_call 21; refine (HL.out _ ?_).mono ?_; (exact HB2.out _ (by go_split_ands; assumption)); rintro e wl ⟨rfl, hbX⟩; have HRA2 := Lib.hid (ZR.next HRA.out hbX); clear HRA z0 z1 z2 z3 z4 z5; have HRA := HRA2; clear HRA2; obtain ⟨z0, z1, z2, z3, z4, z5⟩ := HRA.out.1.three; have HSZ2 := Lib.hid (Nat.le_trans HSZ.out hbX.size); clear HSZ; have HSZ := HSZ2; clear HSZ2; have HOWN2 := Lib.hid (OwnT.below HOWN.out hbX); clear HOWN; have HOWN := HOWN2; clear HOWN2) | (go_at_call 21; refine (HL.out _ ?_).mono ?_; (exact HB2.out _ (by go_split_ands; assumption)); rintro e wl ⟨rfl, hbX⟩; have HSZ2 := Lib.hid (Nat.le_trans HSZ.out hbX.size); clear HSZ; have HSZ := HSZ2; clear HSZ2; have HOWN2 := Lib.hid (OwnT.below HOWN.out hbX); clear HOWN; have HOWN := HOWN2; clear HOWN2) | (go_at_call 33; refine (HC.out (World.drew (World.alloc w1 (.cells #[.slice none 0 0, .int .i64 0, .int .i64 0] 26))) ?_).mono ?_; (exact HB2.out _ (by go_split_ands; assumption)); rintro e wc ⟨g, cp, rfl, hown, hbX⟩; have HRA := Lib.hid (ZR.next (show ZR w1 (World.drew (World.alloc w1 (.cells #[.slice none 0 0, .int .i64 0, .int .i64 0] 26))) w1.heap.size from ⟨RowAt.new w1 _ _, Nat.le_refl _⟩) hbX); obtain ⟨z0, z1, z2, z3, z4, z5⟩ := HRA.out.1.three; have HSZ2 := Lib.hid (Nat.le_trans (Nat.le_trans (Nat.le_succ _) (Nat.le_of_eq (World.size_alloc w1 (.cells #[.slice none 0 0, .int .i64 0, .int .i64 0] 26)).symm)) hbX.size); clear HSZ; have HSZ := HSZ2; clear HSZ2; have HOWN := Lib.hid (OwnT.mono (B' := w1.heap.size) hown (ts_bel (w1 := w1) (p := w.heap.size) (v0 := .slice A n c) (v1 := .int .i64 lf) (v2 := .int .i64 lu) (by assumption)).size); clear hown))
    all_goals
      have HBF := Lib.hid (ts_bel (w1 := w1) (p := w.heap.size) (v0 := .slice A n c) (v1 := .int .i64 lf) (v2 := .int .i64 lu) (by assumption))
      first
        | (have HF0 := Lib.hid (ZR.fill HRA.out (.slice (some ⟨g, 0, none⟩) n cp) (.int .i64 (L - lu)) (.int .i64 (L - lf))); have HO0 := Lib.hid (OwnT.three HOWN.out HRA.out.1 (.slice (some ⟨g, 0, none⟩) n cp) (.int .i64 (L - lu)) (.int .i64 (L - lf))))
        | (have HF0 := Lib.hid (FR.new w1 _ HSZ.out (.slice (some ⟨g, 0, none⟩) n cp) (.int .i64 (L - lu)) (.int .i64 (L - lf))); have HO0 := Lib.hid (OwnT.below HOWN.out ((Below.refl _ _).alloc (Nat.le_refl _) (.cells #[.slice (some ⟨g, 0, none⟩) n cp, .int .i64 (L - lu), .int .i64 (L - lf)] 26))))
      obtain ⟨f0, f1, f2, _, _, _⟩ := HF0.out.1.three
      go_wp2_with (go_at_call 34; refine (reverse_any _ _ _ _ _ _ HO0.out hn0 hn).mono ?_; rintro e w5 ⟨rfl, hown5, hgr⟩; refine Hid.out ?_)
      refine Lib.hid ?_
      have HT := Lib.hid (turn_tail hn0 HF0.out HO0.out HBF.out R2.out hgr)
      have HO5 := Lib.hid hown5
      obtain ⟨p0, p1, p2, _, _, _⟩ := HT.out.1.three
      obtain ⟨b0, b1, b2, b3, b4, b5⟩ := HT.out.2.1.three
      have HB5 := Lib.hid (HB1.out.trans (HT.out.2.2.mono HB1.out.size))
      clear hown5 hgr f0 f1 f2 hna hnb hnc hnd hne hnf
      go_wp2
      refine bodyPost_ret (v := .tuple #[.agg #[.slice (some ⟨g, 0, none⟩) n cp, .int .i64 (L - lu), .int .i64 (L - lf)], .int .i64 0]) (by simp [results, Try.results17, go_sem, b0, b1, b2]) rfl ?_
      have hlr : l.reverse.length = n := by rw [List.length_reverse]; exact HLN.out
      refine NewTrk.as (l' := l.reverse) ⟨some ⟨g, 0, none⟩, cp, by rw [hlr], ?_, ((HB5.out.setCell (by simp) _).setCell (by simp) _).setCell (by simp) _⟩ HF.out
      rw [hlr]
      exact OwnT.mono (OwnT.set (OwnT.set (OwnT.set HO5.out (show w.heap.size + 1 < w1.heap.size from h12) _) (show w.heap.size + 1 < w1.heap.size from h12) _) (show w.heap.size + 1 < w1.heap.size from h12) _) (show w.heap.size ≤ w1.heap.size by omega)
end Go.Proofs.Ytcpppiafjlgimaa.TrkY
