/- The walks of the laws' comparisons of lists of bends. -/
import Derived.Test.YtgojebiipcngoaaBlsB
import Derived.Deep.RegionHeld3
namespace Go.Proofs.Ytgojebiipcngoaa.BlsC
open Go.RowKit Go.Proofs.Ytgojebiipcngoaa.Plain Go.Proofs.Ytgojebiipcngoaa.WalkA Go.Proofs.Ytgojebiipcngoaa.WalkB Go.Proofs.Ytgojebiipcngoaa.WalkC Go.Proofs.Ytgojebiipcngoaa.WalkF Go.Proofs.Ytgojebiipcngoaa.WalkH Go.Proofs.Ytgojebiipcngoaa.BndA Go.Proofs.Ytgojebiipcngoaa.BLaw Go.Proofs.Ytgojebiipcngoaa.BlsA Go.Proofs.Ytgojebiipcngoaa.BlsB

theorem eqBend_any (s : ByteArray) (r l c : Int) (w : World) : Calls Try.prog 28 #[.agg #[.string s, .int .i64 r, .int .i64 l, .int .i64 c], .agg #[.string s, .int .i64 r, .int .i64 l, .int .i64 c]] w fun e w' => e = .returned (.bool true) ∧ Below w.heap.size w w' := by
  have hb : Hid (∀ o1 o2, Below w.heap.size w ((w.alloc o1).alloc o2)) := fun o1 o2 => ((Below.refl _ _).alloc (Nat.le_refl _) _).alloc (by simp) _
  go_enter Try.func28, Try.ntmps28
  go_wp2
  go_ret
  exact ⟨rfl, hb.out _ _⟩
theorem keep8 {wr wc w2 : World} {b b' o o' : Nat} {x y : Bnd} (hb : b < wr.heap.size) (hb' : b' < wr.heap.size) (h1 : Cells4 wc b o x) (h2 : Cells4 wc b' o' y) (h5 : Below wr.heap.size wr wc) (h : Below wc.heap.size wc w2) :
    Cells4 w2 b o x ∧ Cells4 w2 b' o' y ∧ Below wr.heap.size wr w2 :=
  ⟨h1.below h (Nat.lt_of_lt_of_le hb h5.size), h2.below h (Nat.lt_of_lt_of_le hb' h5.size), h5.trans (h.mono h5.size)⟩
theorem eqBends_any (A A' : Option Addr) (n c c' : Nat) (bl : List Bnd) (w : World) (hs : Bnds w w.heap.size A n bl) (hs' : Bnds w w.heap.size A' n bl) (hn : n ≤ 9223372036854775807) :
    Calls Try.prog 9 #[.slice A n c, .slice A' n c'] w fun e w' => e = .returned (.bool true) ∧ Below w.heap.size w w' := by
  have HS := Lib.hid hs
  have HS' := Lib.hid hs'
  obtain ⟨rfl, _⟩ := hs
  clear hs'
  go_enter Try.func9, Try.ntmps9
  go_wp2
  go_loopw [5] (fun i wr => ∃ k : Nat, k ≤ bl.length ∧ i = .int .i64 k ∧ Below w.heap.size w wr) (fun i _ => bl.length - (intOf i).toNat)
  case atStart => exact ⟨0, Nat.zero_le _, rfl, Below.refl _ _⟩
  case round =>
    obtain ⟨k, hk, rfl, hbr⟩ := hrel
    have HBR := Lib.hid hbr
    by_cases hlt : k < bl.length
    · obtain ⟨b, off, rfl, hb, hc⟩ := (HS.out.below hbr hbr.size).2.2 (by omega)
      obtain ⟨b', off', rfl, hb', hc'⟩ := (HS'.out.below hbr hbr.size).2.2 (by omega)
      have C1 := Lib.hid (hc k hlt)
      have C2 := Lib.hid (hc' k hlt)
      clear hc hc' hbr
      generalize bAt bl k = x at *
      obtain ⟨s, r, l, q⟩ := x
      go_wp2
      go_region_held3 (fun w' => w'.cell? ⟨b, off + k * 4, none⟩ = some (.string s) ∧ w'.cell? ⟨b, off + k * 4 + 1, none⟩ = some (.int .i64 r) ∧ w'.cell? ⟨b, off + k * 4 + 2, none⟩ = some (.int .i64 l) ∧ w'.cell? ⟨b, off + k * 4 + 3, none⟩ = some (.int .i64 q) ∧ w'.cell? ⟨b', off' + k * 4, none⟩ = some (.string s) ∧ w'.cell? ⟨b', off' + k * 4 + 1, none⟩ = some (.int .i64 r) ∧ w'.cell? ⟨b', off' + k * 4 + 2, none⟩ = some (.int .i64 l) ∧ w'.cell? ⟨b', off' + k * 4 + 3, none⟩ = some (.int .i64 q) ∧ Below wr.heap.size wr w')
        (first | exact ⟨C1.out.1, C1.out.2.1, C1.out.2.2.1, C1.out.2.2.2, C2.out.1, C2.out.2.1, C2.out.2.2.1, C2.out.2.2.2, (Below.refl _ _).drew⟩ | (go_split_ands; obtain ⟨⟨k0, k1, k2, k3⟩, ⟨k4, k5, k6, k7⟩, k8⟩ := keep8 (x := ⟨s, r, l, q⟩) (y := ⟨s, r, l, q⟩) (o := off + k * 4) (o' := off' + k * 4) hb hb' ⟨by assumption, by assumption, by assumption, by assumption⟩ ⟨by assumption, by assumption, by assumption, by assumption⟩ (by assumption) (by assumption); exact ⟨k0, k1, k2, k3, k4, k5, k6, k7, k8⟩))
        (first | (go_at_call 28; refine (eqBend_any _ _ _ _ _).mono ?_; rintro e w2 ⟨rfl, hb2⟩))
      have HBB : Hid (∀ wx : World, Below wr.heap.size wr wx → Below w.heap.size w wx) := fun wx hx => HBR.out.trans (hx.mono HBR.out.size)
      go_wp2
      go_roundw
      case rel => exact ⟨k + 1, by omega, by go_num, HBB.out _ (by go_split_ands; assumption)⟩
      case measure => simp [intOf]; omega
    · have e : k = bl.length := by omega
      subst e
      clear hbr
      go_wp2
      go_ret
      exact ⟨rfl, HBR.out⟩
end Go.Proofs.Ytgojebiipcngoaa.BlsC
