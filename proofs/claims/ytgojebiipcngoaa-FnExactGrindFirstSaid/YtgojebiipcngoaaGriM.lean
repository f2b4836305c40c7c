/- Marks laid on bends: nothing but the bends' own block is touched. -/
import Derived.Test.YtgojebiipcngoaaBlsB
import Derived.Laws.Concat
namespace Go.Proofs.Ytgojebiipcngoaa.GriM
set_option maxRecDepth 100000
open Go.RowKit Go.Proofs.Ytgojebiipcngoaa.Plain Go.Proofs.Ytgojebiipcngoaa.BlsB

theorem below_alloc (w : World) (o : Obj) : Below w.heap.size w (w.alloc o) := (Below.refl _ _).alloc (Nat.le_refl _) o
/-- The text of a mark is some text, not a long one. -/
theorem markText_any (k : Nat) (hk1 : 1 ≤ k) (hk2 : k ≤ 4194310) (w : World) :
    Calls Try.prog 29 #[.int .i64 (k : Int)] w fun e w' => ∃ s, e = .returned (.string s) ∧ Below w.heap.size w w' := by
  go_enter Try.func29, Try.ntmps29
  go_wp2
  go_loopw [0, 3] (fun i v wr => ∃ (u : Nat) (out : ByteArray), i = .int .i64 (u : Int) ∧ v = .string out ∧ out.size + u ≤ 4194310 ∧ Hid (Below w.heap.size w wr)) (fun i _ _ => (intOf i).toNat)
  case atStart => exact ⟨k, ⟨#[]⟩, rfl, rfl, by show 0 + k ≤ _; omega, Below.refl _ _⟩
  case round =>
    obtain ⟨u, out, rfl, rfl, hln, hbr⟩ := hrel
    have hwr := hbr.out.size
    by_cases h0 : 0 < u
    · have HQ : Hid ((((u / 10 : Nat) : Int)) = (u : Int) / 10) := by show (((u / 10 : Nat) : Int)) = (u : Int) / 10; omega
      have hx : ((UInt8.ofNat (48 + u % 10)).toNat : Int) = 48 + (u : Int) % 10 := by
        have : (UInt8.ofNat (48 + u % 10)).toNat = 48 + u % 10 := by simp [UInt8.toNat_ofNat']; omega
        omega
      have hcv : (convert 54 9 (.slice (some ⟨wr.heap.size, 0, none⟩) 1 1)).run Try.prog (wr.alloc (.cells #[.int .u8 (48 + (u : Int) % 10)] 5)) = .ok (.string ⟨[UInt8.ofNat (48 + u % 10)].toArray⟩) (wr.alloc (.cells #[.int .u8 (48 + (u : Int) % 10)] 5)) := by
        rw [← hx]
        exact run_convert_bytes_back (P := Try.prog) (wr.alloc (.cells #[.int .u8 ((UInt8.ofNat (48 + u % 10)).toNat : Int)] 5)) 54 9 5 ⟨wr.heap.size, 0, none⟩ 1 [UInt8.ofNat (48 + u % 10)] Try.underlying54 Try.underlying5 Try.underlying9 (fun j hj => by
          have e : j = 0 := by simpa using hj
          subst e
          exact cell_of_row _ _ 0 _ _ _ (heap_alloc_new wr _))
      have hsz : ((⟨[UInt8.ofNat (48 + u % 10)].toArray⟩ : ByteArray)).size = 1 := rfl
      have HB := Lib.hid (fun o => hbr.out.trans ((below_alloc wr o).mono hwr))
      have b1 : 0 ≤ (u : Int) % 10 := by omega
      have b2 : (u : Int) % 10 < 10 := by omega
      have b3 : 0 ≤ (u : Int) / 10 := by omega
      have b5 : (u : Int) / 10 < (u : Int) := by omega
      clear hx
      generalize (⟨[UInt8.ofNat (48 + u % 10)].toArray⟩ : ByteArray) = dg at *
      obtain ⟨P1, hP1⟩ : ∃ P1, P1 = dg ++ out := ⟨_, rfl⟩
      have hP2 : P1.size = out.size + 1 := by rw [hP1, ByteArray.size_append, hsz]; omega
      have A1 : ∀ W, (Op.stringOp .add dg out).run Try.prog W = .ok (.string P1) W := fun W => by rw [hP1]; exact run_string_add_sum W _ _ (by omega)
      have hu : u ≤ 4194310 := by omega
      have HP2 : Hid (P1.size + u / 10 ≤ 4194310) := by show _ ≤ _; omega
      clear hP1 hsz hln hP2
      go_wp2
      go_roundw
      case rel => exact ⟨u / 10, P1, by rw [HQ.out], rfl, HP2.out, HB.out _⟩
      case measure => simp [intOf]; omega
    · have e : u = 0 := by omega
      subst e
      obtain ⟨P1, hP1⟩ : ∃ P1, P1 = (⟨#[109]⟩ : ByteArray) ++ out := ⟨_, rfl⟩
      have A1 : ∀ W, (Op.stringOp .add ⟨#[109]⟩ out).run Try.prog W = .ok (.string P1) W := fun W => by rw [hP1]; exact run_string_add_sum W _ _ (by show 1 + _ ≤ _; omega)
      clear hP1
      go_wp2
      go_ret
      exact ⟨_, rfl, hbr.out⟩
/-- All blocks but g are as they were. -/
def Only (g : Nat) (w w' : World) : Prop := w'.os = w.os ∧ w'.tape = w.tape ∧ w'.output = w.output ∧ w.heap.size ≤ w'.heap.size ∧ ∀ k, k < w.heap.size → k ≠ g → w'.heap[k]? = w.heap[k]?
theorem Only.refl (g : Nat) (w : World) : Only g w w := ⟨rfl, rfl, rfl, Nat.le_refl _, fun _ _ _ => rfl⟩
theorem Only.low {g : Nat} {w w' w'' : World} (h : Only g w w') (hb : Below w'.heap.size w' w'') : Only g w w'' :=
  ⟨hb.os.trans h.1, hb.tape.trans h.2.1, hb.output.trans h.2.2.1, Nat.le_trans h.2.2.2.1 hb.size, fun k hk hg => (hb.block k (Nat.lt_of_lt_of_le hk h.2.2.2.1)).trans (h.2.2.2.2 k hk hg)⟩
theorem Only.set {g : Nat} {w w' : World} (h : Only g w w') (i : Nat) (u : Value) : Only g w (w'.setCell ⟨g, i, none⟩ u) :=
  ⟨h.1, h.2.1, h.2.2.1, by simpa [World.setCell] using h.2.2.2.1, fun k hk hne => (Below.heap_setCell _ _ _ _ hne).trans (h.2.2.2.2 k hk hne)⟩
theorem markBends_any (g c n : Nat) (t : TypeId) (cs : Array Value) (w : World) (hr : RowAt w g t cs) (hc : n * 4 ≤ cs.size) (hn : n ≤ 1048576) :
    Calls Try.prog 10 #[.slice (some ⟨g, 0, none⟩) n c, .int .i64 1] w fun e w' => e = .returned (.int .i64 (1 + 4 * (n : Int))) ∧ Only g w w' := by
  have HR := Lib.hid hr
  have HC := Lib.hid hc
  clear hr hc
  go_enter Try.func10, Try.ntmps10
  go_wp2
  go_loopw [1, 5] (fun q i wr => ∃ (k : Nat) (cs' : Array Value), k ≤ n ∧ i = .int .i64 k ∧ q = .int .i64 (1 + 4 * (k : Int)) ∧ Hid (RowAt wr g t cs') ∧ Hid (cs'.size = cs.size) ∧ Hid (Only g w wr)) (fun _ i _ => n - (intOf i).toNat)
  case atStart => exact ⟨0, cs, Nat.zero_le _, rfl, rfl, HR, rfl, Only.refl _ _⟩
  case round =>
    obtain ⟨k, cs', hk, rfl, rfl, hrow, hsz, hon⟩ := hrel
    by_cases hlt : k < n
    · have HM := Lib.hid (fun W => markText_any (1 + 4 * k) (by omega) (by omega) W)
      have ek : ((1 + 4 * k : Nat) : Int) = 1 + 4 * (k : Int) := by omega
      rw [ek] at HM
      clear ek
      go_wp2_with fail
      refine (HM.out _).mono ?_
      rintro e w2 ⟨s, rfl, hb2⟩
      have HR2 := Lib.hid (hrow.out.below hb2 hrow.out.lt)
      have HO2 := Lib.hid (hon.out.low hb2)
      clear hb2 HM
      have hcs : k * 4 + 3 < cs'.size := by have := hsz.out; have := HC.out; omega
      have q0 : w2.cell? ⟨g, k * 4, none⟩ = some (cs'[k * 4]'(by omega)) := by rw [HR2.out.cell]; exact Array.getElem?_eq_getElem _
      have q1 : w2.cell? ⟨g, k * 4 + 1, none⟩ = some (cs'[k * 4 + 1]'(by omega)) := by rw [HR2.out.cell]; exact Array.getElem?_eq_getElem _
      have q2 : w2.cell? ⟨g, k * 4 + 2, none⟩ = some (cs'[k * 4 + 2]'(by omega)) := by rw [HR2.out.cell]; exact Array.getElem?_eq_getElem _
      have q3 : w2.cell? ⟨g, k * 4 + 3, none⟩ = some (cs'[k * 4 + 3]'(by omega)) := by rw [HR2.out.cell]; exact Array.getElem?_eq_getElem _
      have f0 := HR2.out.frozen (k * 4)
      have f1 := HR2.out.frozen (k * 4 + 1)
      have f2 := HR2.out.frozen (k * 4 + 2)
      have f3 := HR2.out.frozen (k * 4 + 3)
      generalize cs'[k * 4]'(by omega) = x0 at *
      generalize cs'[k * 4 + 1]'(by omega) = x1 at *
      generalize cs'[k * 4 + 2]'(by omega) = x2 at *
      generalize cs'[k * 4 + 3]'(by omega) = x3 at *
      go_wp2
      go_roundw
      case rel => exact ⟨k + 1, _, by omega, by go_num, by go_num, (((HR2.out.store _ _).store _ _).store _ _).store _ _, by show _ = _; simpa using hsz.out, ((((HO2.out.set _ _).set _ _).set _ _).set _ _)⟩
      case measure => simp [intOf]; omega
    · have e : k = n := by omega
      subst e
      go_wp2
      go_ret
      exact ⟨rfl, hon.out⟩
end Go.Proofs.Ytgojebiipcngoaa.GriM
