/- Draws: bytes of an input, the source that reads choices from them, choices of the laws. What is drawn is told by its bounds alone. -/
import Derived.Test.YtlknncmnphbpkaaGreatDoorPlain
import Derived.Test.YtlknncmnphbpkaaGreatDoorProg
import Derived.Lib.Hide
import Derived.WalkKit
import Derived.Below
import Derived.BigCall
import Derived.BigQuiet
import Derived.OwnWalk
import Derived.Outline
import Derived.IntWalk
import Derived.Deep.QuietTactic
namespace Go.Proofs.YtlknncmnphbpkaaGreatDoor.SrcA
set_option maxRecDepth 100000
open Go.RowKit Go.Proofs.YtlknncmnphbpkaaGreatDoor.Plain

def RowAt (w : World) (g : Nat) (t : TypeId) (cs : Array Value) : Prop := w.heap[g]? = some (.cells cs t (0, 0))
theorem RowAt.lt {w : World} {g : Nat} {t : TypeId} {cs : Array Value} (h : RowAt w g t cs) : g < w.heap.size := by
  unfold RowAt at h
  exact (Array.getElem?_eq_some_iff.1 h).1
theorem RowAt.cell {w : World} {g : Nat} {t : TypeId} {cs : Array Value} (h : RowAt w g t cs) (i : Nat) : w.cell? ⟨g, i, none⟩ = cs[i]? := cell_of_row w g i cs t (0, 0) h
theorem RowAt.frozen {w : World} {g : Nat} {t : TypeId} {cs : Array Value} (h : RowAt w g t cs) (i : Nat) : w.frozen? ⟨g, i, none⟩ = false := by
  unfold RowAt at h
  simp [World.frozen?, h]
theorem RowAt.new (w : World) (t : TypeId) (cs : Array Value) : RowAt (w.alloc (.cells cs t)) w.heap.size t cs := heap_alloc_new w _
theorem RowAt.store {w : World} {g : Nat} {t : TypeId} {cs : Array Value} (h : RowAt w g t cs) (i : Nat) (u : Value) : RowAt (w.setCell ⟨g, i, none⟩ u) g t (cs.setIfInBounds i u) := by
  unfold RowAt at h ⊢
  simp [World.setCell, Array.getElem?_modify, h]
theorem RowAt.below {W W' : World} {g : Nat} {t : TypeId} {cs : Array Value} (h : RowAt W g t cs) (hb : Below W.heap.size W W') : RowAt W' g t cs := (hb.block g h.lt).trans h

/-- Bytes lie behind a slice, their block below B. -/
def Bys (w : World) (B : Nat) (A : Option Addr) (n : Nat) : Prop :=
  0 < n → ∃ b off, A = some ⟨b, off, none⟩ ∧ b < B ∧ ∀ i, i < n → ∃ x : Int, 0 ≤ x ∧ x ≤ 255 ∧ w.cell? ⟨b, off + i, none⟩ = some (.int .u8 x)
theorem Bys.below {w w' : World} {B B' : Nat} {A : Option Addr} {n : Nat} (h : Bys w B A n) (hb : Below B w w') (hB : B ≤ B') : Bys w' B' A n := fun hn => by
  obtain ⟨b, off, e, hlt, hc⟩ := h hn
  refine ⟨b, off, e, Nat.lt_of_lt_of_le hlt hB, fun i hi => ?_⟩
  obtain ⟨x, h0, h1, hx⟩ := hc i hi
  exact ⟨x, h0, h1, (hb.cell (p := ⟨b, off + i, none⟩) hlt).trans hx⟩
/-- Every block but p is as it was. -/
structure But (p : Nat) (w w' : World) : Prop where
  os : w'.os = w.os
  tape : w'.tape = w.tape
  output : w'.output = w.output
  size : w.heap.size ≤ w'.heap.size
  block : ∀ k, k < w.heap.size → k ≠ p → w'.heap[k]? = w.heap[k]?
theorem But.refl (p : Nat) (w : World) : But p w w := ⟨rfl, rfl, rfl, Nat.le_refl _, fun _ _ _ => rfl⟩
theorem But.trans {p : Nat} {w w' w'' : World} (h : But p w w') (k : But p w' w'') : But p w w'' :=
  ⟨k.os.trans h.os, k.tape.trans h.tape, k.output.trans h.output, Nat.le_trans h.size k.size, fun j hj hp => (k.block j (Nat.lt_of_lt_of_le hj h.size) hp).trans (h.block j hj hp)⟩
theorem But.of {p : Nat} {w w' : World} (h : Below w.heap.size w w') : But p w w' := ⟨h.os, h.tape, h.output, h.size, fun k hk _ => h.block k hk⟩
theorem But.below {p B : Nat} {w w' : World} (h : But p w w') (hp : B ≤ p) (hB : B ≤ w.heap.size) : Below B w w' := ⟨h.os, h.tape, h.output, h.size, fun k hk => h.block k (by omega) (by omega)⟩
theorem But.cell {p b o : Nat} {w w' : World} (h : But p w w') (hb : b < w.heap.size) (hp : b ≠ p) : w'.cell? ⟨b, o, none⟩ = w.cell? ⟨b, o, none⟩ := by
  have e := h.block b hb hp
  simp [World.cell?, e]
theorem But.row {p g : Nat} {w w' : World} {t : TypeId} {cs : Array Value} (h : But p w w') (hr : RowAt w g t cs) (hp : g ≠ p) : RowAt w' g t cs := (h.block g hr.lt hp).trans hr
theorem But.set {p : Nat} (w : World) (o : Nat) (u : Value) : But p w (w.setCell ⟨p, o, none⟩ u) := by
  refine ⟨rfl, rfl, rfl, ?_, fun k hk hp => ?_⟩
  · simp [World.setCell]
  · simp only [World.setCell]
    rw [Array.getElem?_modify, if_neg (fun e => hp e.symm)]
theorem But.drew {p : Nat} (w : World) (m : Nat) : But p w (w.drewN m) := ⟨rfl, rfl, rfl, Nat.le_refl _, fun _ _ _ => rfl⟩
/-- A source lies in block p; it has given at most K choices. -/
def Src (w : World) (p : Nat) (A : Option Addr) (n c K : Nat) : Prop :=
  ∃ a s : Int, 0 ≤ a ∧ a ≤ K ∧ RowAt w p 69 #[.slice A n c, .int .i64 a, .int .u64 s] ∧ Bys w p A n ∧ n ≤ 1048576
theorem Src.lt {w : World} {p : Nat} {A : Option Addr} {n c K : Nat} (h : Src w p A n c K) : p < w.heap.size := by
  obtain ⟨_, _, _, _, h, _⟩ := h
  exact h.lt
theorem Src.below {w w' : World} {p : Nat} {A : Option Addr} {n c K : Nat} (h : Src w p A n c K) (hb : Below w.heap.size w w') : Src w' p A n c K := by
  have hp := h.lt
  obtain ⟨a, s, h0, h1, h2, h3, h4⟩ := h
  exact ⟨a, s, h0, h1, h2.below hb, h3.below (hb.mono (Nat.le_of_lt hp)) (Nat.le_refl _), h4⟩
theorem Src.more {w : World} {p : Nat} {A : Option Addr} {n c K K' : Nat} (h : Src w p A n c K) (hK : K ≤ K') : Src w p A n c K' := by
  obtain ⟨a, s, h0, h1, h2, h3, h4⟩ := h
  exact ⟨a, s, h0, by omega, h2, h3, h4⟩
theorem ret64 {a b : Int} (h : a = b) : Ending.returned (.int .i64 a) = .returned (.int .i64 b) := by rw [h]

/-- A number from lo to hi. -/
def Some64 (lo hi : Int) (w : World) (e : Ending) (w' : World) : Prop := ∃ v, lo ≤ v ∧ v ≤ hi ∧ e = .returned (.int .i64 v) ∧ w = w'
def Choice (hi : Int) (p : Nat) (A : Option Addr) (n c K : Nat) (w : World) (e : Ending) (w' : World) : Prop := ∃ x, 0 ≤ x ∧ x ≤ hi ∧ e = .returned (.int .i64 x) ∧ Src w' p A n c K ∧ But p w w' ∧ w'.heap.size = w.heap.size
theorem row3 {w : World} {g : Nat} {t : TypeId} {a b c : Value} (h : RowAt w g t #[a, b, c]) :
    w.cell? ⟨g, 0, none⟩ = some a ∧ w.cell? ⟨g, 1, none⟩ = some b ∧ w.cell? ⟨g, 2, none⟩ = some c ∧ w.frozen? ⟨g, 0, none⟩ = false ∧ w.frozen? ⟨g, 1, none⟩ = false ∧ w.frozen? ⟨g, 2, none⟩ = false :=
  ⟨h.cell 0, h.cell 1, h.cell 2, h.frozen 0, h.frozen 1, h.frozen 2⟩
theorem byte_and (n : Int) : 0 ≤ bits BinOp.and IntKind.u64 n 255 ∧ bits BinOp.and IntKind.u64 n 255 ≤ 255 := by
  have h : (BitVec.ofInt 64 n &&& BitVec.ofInt 64 255).toNat ≤ 255 := by
    rw [BitVec.toNat_and]
    exact Nat.le_trans Nat.and_le_right (by decide)
  show 0 ≤ IntKind.u64.wrap ((BitVec.ofInt 64 n &&& BitVec.ofInt 64 255).toNat : Nat) ∧ IntKind.u64.wrap ((BitVec.ofInt 64 n &&& BitVec.ofInt 64 255).toNat : Nat) ≤ 255
  rw [IntWalk.u64_in _ (by omega)]
  omega
theorem byte_wrap (n : Int) : 0 ≤ wrap64 (bits BinOp.and IntKind.u64 n 255) ∧ wrap64 (bits BinOp.and IntKind.u64 n 255) ≤ 255 := by
  have h := byte_and n
  generalize bits BinOp.and IntKind.u64 n 255 = v at *
  unfold wrap64
  omega
theorem next_any (p : Nat) (A : Option Addr) (n c K : Nat) (hK : K ≤ 1000000) (w : World) (h : Src w p A n c K) :
    Calls Tryz.prog 69 #[.pointer (some ⟨p, 0, none⟩)] w (Choice 255 p A n c (K + 1) w) := by
  obtain ⟨a, s, ha0, ha1, hrow, hby, hn⟩ := h
  have HROW := Lib.hid hrow
  have HBY := Lib.hid hby
  obtain ⟨q0, q1, q2, f0, f1, f2⟩ := row3 hrow
  obtain ⟨j, rfl⟩ : ∃ j : Nat, a = j := ⟨a.toNat, by omega⟩
  have hlp := hrow.lt
  have HR4 : Hid (∀ (u v : Int) m m', 0 ≤ u → u ≤ ((K + 1 : Nat) : Int) → Src ((((w.drewN m).setCell ⟨p, 1, none⟩ (.int .i64 u)).setCell ⟨p, 2, none⟩ (.int .u64 v)).drewN m') p A n c (K + 1) ∧ But p w ((((w.drewN m).setCell ⟨p, 1, none⟩ (.int .i64 u)).setCell ⟨p, 2, none⟩ (.int .u64 v)).drewN m') ∧ ((((w.drewN m).setCell ⟨p, 1, none⟩ (.int .i64 u)).setCell ⟨p, 2, none⟩ (.int .u64 v)).drewN m').heap.size = w.heap.size) := fun u v m m' h0 h1 => by
    have hr : RowAt (w.drewN m) p 69 #[.slice A n c, .int .i64 j, .int .u64 s] := hrow
    have hb : But p w ((((w.drewN m).setCell ⟨p, 1, none⟩ (.int .i64 u)).setCell ⟨p, 2, none⟩ (.int .u64 v)).drewN m') := (((But.drew w m).trans (But.set _ 1 _)).trans (But.set _ 2 _)).trans (But.drew _ m')
    have hr2 : RowAt ((((w.drewN m).setCell ⟨p, 1, none⟩ (.int .i64 u)).setCell ⟨p, 2, none⟩ (.int .u64 v)).drewN m') p 69 #[.slice A n c, .int .i64 u, .int .u64 v] := (hr.store 1 (.int .i64 u)).store 2 (.int .u64 v)
    exact ⟨⟨u, v, h0, h1, hr2, hby.below (hb.below (Nat.le_refl _) (Nat.le_of_lt hlp)) (Nat.le_refl _), hn⟩, hb, by simp [World.setCell]⟩
  by_cases hj : j < n
  · obtain ⟨b, off, rfl, hlt, hc⟩ := hby (by omega)
    obtain ⟨x, hx0, hx1, hx⟩ := hc j hj
    have hj1 : ((j : Int) + 1) ≤ (n : Int) := by omega
    have hj2 : decide (((j : Int) + 1) ≤ (n : Int)) = true := decide_eq_true hj1
    clear hc hrow hby
    go_enter Tryz.func69, Tryz.ntmps69
    go_wp2
    go_quiet (fail)
    go_wp2
    go_quiet (fail)
    go_wp2
    go_quiet (fail)
    go_wp2
    go_ret
    exact ⟨x, hx0, hx1, rfl, HR4.out ((j : Int) + 1) _ _ _ (by omega) (by omega)⟩
  · have hj1 : ¬ ((j : Int) + 1) ≤ (n : Int) := by omega
    have hj2 : decide (((j : Int) + 1) ≤ (n : Int)) = false := decide_eq_false hj1
    have hj3 : decide ((j : Int) < (n : Int)) = false := decide_eq_false (by omega)
    clear hrow hby hj
    go_enter Tryz.func69, Tryz.ntmps69
    go_wp2
    go_quiet (fail)
    go_wp2
    go_quiet (fail)
    go_wp2
    go_ret
    exact ⟨_, (byte_wrap _).1, (byte_wrap _).2, rfl, HR4.out ((j : Int) + 1) _ _ _ (by omega) (by omega)⟩
/-- Which numbers a choice among n has. -/
theorem pick_any (p : Nat) (A : Option Addr) (n c K : Nat) (hK : K ≤ 999000) (m : Int) (hm : 1 < m ∧ m ≤ 60000) (w : World) (h : Src w p A n c K) :
    Calls Tryz.prog 46 #[.pointer (some ⟨p, 0, none⟩), .int .i64 m] w (Choice (m - 1) p A n c (K + 2) w) := by
  have HN := Lib.hid (next_any p A n c K (by omega) w h)
  have HN2 := Lib.hid (fun W => next_any p A n c (K + 1) (by omega) W)
  clear h
  by_cases h2 : 200 < m
  · have h3 : (200 : Int) < m := h2
    go_enter Tryz.func46, Tryz.ntmps46
    go_wp2_with fail
    refine HN.out.mono ?_
    rintro e w1 ⟨x, x0, x1, rfl, hs1, hb1, hz1⟩
    go_wp2_with fail
    refine (HN2.out _ hs1).mono ?_
    rintro e w2 ⟨y, y0, y1, rfl, hs2, hb2, hz2⟩
    have h1 := Int.emod_nonneg (x * 256 + y) (show m ≠ 0 by omega)
    have h2 := Int.emod_lt_of_pos (x * 256 + y) (show 0 < m by omega)
    have HP : Hid (Src w2 p A n c (K + 2) ∧ But p w w2 ∧ w2.heap.size = w.heap.size) := ⟨hs2, hb1.trans hb2, hz2.trans hz1⟩
    clear hs1 hs2 hb1 hb2 hz1 hz2
    go_wp2_with fail
    go_ret
    exact ⟨(x * 256 + y) % m, h1, by omega, rfl, HP.out⟩
  · go_enter Tryz.func46, Tryz.ntmps46
    go_wp2_with fail
    refine HN.out.mono ?_
    rintro e w1 ⟨x, x0, x1, rfl, hs1, hb1, hz1⟩
    have h1 := Int.emod_nonneg x (show m ≠ 0 by omega)
    have h2 := Int.emod_lt_of_pos x (show 0 < m by omega)
    have HP : Hid (Src w1 p A n c (K + 2) ∧ But p w w1 ∧ w1.heap.size = w.heap.size) := ⟨hs1.more (by omega), hb1, hz1⟩
    clear hs1 hb1 hz1
    go_wp2_with fail
    go_ret
    exact ⟨x % m, h1, by omega, rfl, HP.out⟩
theorem from_any (A : Option Addr) (n c : Nat) (w : World) (hb : Bys w w.heap.size A n) (hn : n ≤ 1048576) :
    Calls Tryz.prog 17 #[.slice A n c] w fun e w' => e = .returned (.pointer (some ⟨w.heap.size, 0, none⟩)) ∧ Src w' w.heap.size A n c 0 ∧ Below w.heap.size w w' ∧ w'.heap.size = w.heap.size + 1 := by
  have HB : Hid (Below w.heap.size w (w.alloc (.cells #[.slice A n c, .int .i64 0, .int .u64 0] 69))) := (Below.refl _ _).alloc (Nat.le_refl _) _
  have HS : Hid (Src (w.alloc (.cells #[.slice A n c, .int .i64 0, .int .u64 0] 69)) w.heap.size A n c 0) := ⟨0, 0, by omega, by omega, RowAt.new w _ _, hb.below HB.out (Nat.le_refl _), hn⟩
  have HZ : Hid ((w.alloc (.cells #[.slice A n c, .int .i64 0, .int .u64 0] 69)).heap.size = w.heap.size + 1) := by show _ = _; simp
  clear hb
  go_enter Tryz.func17, Tryz.ntmps17
  go_wp2
  go_ret
  exact ⟨rfl, HS.out, HB.out, HZ.out⟩
end Go.Proofs.YtlknncmnphbpkaaGreatDoor.SrcA
