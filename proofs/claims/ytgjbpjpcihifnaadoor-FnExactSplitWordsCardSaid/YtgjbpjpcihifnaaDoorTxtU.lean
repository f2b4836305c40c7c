/- The laws' marks on lists of texts, and their comparison. -/
import Derived.Test.YtgjbpjpcihifnaaDoorTxtT
import Derived.Test.YtgjbpjpcihifnaaDoorTxtG
import Derived.Laws.Concat
import Derived.Deep.RegionHeld3
namespace Go.Proofs.YtgjbpjpcihifnaaDoor.TxtU
open Go.RowKit Go.Proofs.YtgjbpjpcihifnaaDoor.Plain Go.Proofs.YtgjbpjpcihifnaaDoor.TxtA Go.Proofs.YtgjbpjpcihifnaaDoor.TxtB Go.Proofs.YtgjbpjpcihifnaaDoor.TxtC Go.Proofs.YtgjbpjpcihifnaaDoor.TxtH Go.Proofs.YtgjbpjpcihifnaaDoor.TxtS Go.Proofs.YtgjbpjpcihifnaaDoor.TxtT Go.Proofs.YtgjbpjpcihifnaaDoor.WalkA Go.Proofs.YtgjbpjpcihifnaaDoor.WalkC

/-- Texts lie behind a slice. -/
def Strs (W : World) (A : Option Addr) (n : Nat) (l : List ByteArray) : Prop :=
  l.length = n ∧ (0 < n → ∃ g, A = some ⟨g, 0, none⟩ ∧ g < W.heap.size ∧ ∀ (j : Nat) x, l[j]? = some x → W.cell? ⟨g, j, none⟩ = some (.string x))
theorem OwnS.shape {W : World} {B : Nat} {v : Value} {l : List ByteArray} (h : OwnS W B v l) : ∃ A c, v = .slice A l.length c := by
  rcases h.2 with ⟨rfl, h0⟩ | ⟨g, cap, _, rfl, _⟩
  · exact ⟨none, 0, by rw [h0]⟩
  · exact ⟨_, _, rfl⟩
theorem OwnS.strs {W : World} {B : Nat} {A : Option Addr} {n c : Nat} {l : List ByteArray} (h : OwnS W B (.slice A n c) l) (hn : n = l.length) : Strs W A n l := by
  subst hn
  refine ⟨rfl, fun h0 => ?_⟩
  obtain ⟨g, cap, e, _, hg, hc⟩ := h.form h0
  injection e with e1 e2 e3
  exact ⟨g, e1, hg, fun j x hx => by have := hc j x hx; rw [Nat.zero_add] at this; exact this⟩
theorem eqStrings_any (A A' : Option Addr) (n c c' : Nat) (l : List ByteArray) (w : World) (hs : Strs w A n l) (hs' : Strs w A' n l) (hn : n ≤ 2097152) :
    Calls Tryd.prog 15 #[.slice A n c, .slice A' n c'] w fun e w' => e = .returned (.bool true) ∧ ∃ m, w' = w.drewN m := by
  have HS := Lib.hid hs
  have HS' := Lib.hid hs'
  obtain ⟨rfl, _⟩ := hs
  clear hs'
  go_enter Tryd.func15, Tryd.ntmps15
  go_wp2
  go_loopw [5] (fun i wr => ∃ k m : Nat, k ≤ l.length ∧ i = .int .i64 k ∧ wr = w.drewN m) (fun i _ => l.length - (intOf i).toNat)
  case atStart => exact ⟨0, 0, Nat.zero_le _, rfl, rfl⟩
  case round =>
    obtain ⟨k, m, hk, rfl, rfl⟩ := hrel
    by_cases hlt : k < l.length
    · obtain ⟨x, hx⟩ : ∃ x, l[k]? = some x := ⟨_, List.getElem?_eq_getElem hlt⟩
      obtain ⟨b, rfl, hb, hc⟩ := HS.out.2 (by omega)
      obtain ⟨b', rfl, hb', hc'⟩ := HS'.out.2 (by omega)
      have c1 := hc k x hx
      have c2 := hc' k x hx
      clear hc hc' hx
      go_wp2
      go_quiet (fail)
      go_wp2
      go_roundw
      case rel => exact ⟨k + 1, _, by omega, by go_num, rfl⟩
      case measure => simp [intOf]; omega
    · have e : k = l.length := by omega
      subst e
      go_wp2
      go_ret
      exact ⟨rfl, _, rfl⟩

/-- The text of a mark. -/
def mk (k : Nat) : ByteArray := ⟨#[109]⟩ ++ dec (k : Int)
theorem decDigits_small {k : Nat} (hk : k ≤ 4194304) {l : List UInt8} {v : Nat} (h : D0 v ++ l = Lib.decDigits k) : l.length ≤ 21 := by
  have := digits_len (u := k) (l := l.reverse) (v := v) (by omega) (by rw [List.reverse_reverse]; exact h)
  simpa using this
theorem one_add (x : UInt8) (out : ByteArray) : (⟨[x].toArray⟩ : ByteArray) ++ out = ⟨(x :: dl out).toArray⟩ := by
  apply dl_inj
  show (((⟨[x].toArray⟩ : ByteArray) ++ out).data).toList = _
  rw [ByteArray.data_append, Array.toList_append]
  simp [dl]
theorem markText_any (k : Nat) (hk1 : 1 ≤ k) (hk2 : k ≤ 4194304) (w : World) :
    Calls Tryd.prog 36 #[.int .i64 (k : Int)] w fun e w' => e = .returned (.string (mk k)) ∧ Below w.heap.size w w' := by
  have HK := Lib.hid hk2
  go_enter Tryd.func36, Tryd.ntmps36
  go_wp2
  go_loopw [0, 3] (fun i v wr => ∃ (u : Nat) (out : ByteArray), u ≤ 4194304 ∧ i = .int .i64 (u : Int) ∧ v = .string out ∧ Hid (D0 u ++ dl out = Lib.decDigits k) ∧ Hid (Below w.heap.size w wr)) (fun i _ _ => (intOf i).toNat)
  case atStart => exact ⟨k, ⟨#[]⟩, hk2, rfl, rfl, by show D0 k ++ [] = _; rw [List.append_nil]; unfold D0; rw [if_neg (by omega)], Below.refl _ _⟩
  case round =>
    obtain ⟨u, out, hu, rfl, rfl, hd, hbr⟩ := hrel
    have hln : out.size ≤ 21 := decDigits_small HK.out hd.out
    have hwr := hbr.out.size
    by_cases h0 : 0 < u
    · have HS : Hid (D0 (u / 10) ++ dl ((⟨[UInt8.ofNat (48 + u % 10)].toArray⟩ : ByteArray) ++ out) = Lib.decDigits k) := by
        show D0 (u / 10) ++ dl ((⟨[UInt8.ofNat (48 + u % 10)].toArray⟩ : ByteArray) ++ out) = _
        rw [one_add]
        show D0 (u / 10) ++ ([UInt8.ofNat (48 + u % 10)] ++ dl out) = _
        rw [← List.append_assoc, ← D0_step h0]
        exact hd.out
      have hx := dig_val u
      have HQ : Hid ((((u / 10 : Nat) : Int)) = (u : Int) / 10) := by show (((u / 10 : Nat) : Int)) = (u : Int) / 10; omega
      have hcv : (convert 46 9 (.slice (some ⟨wr.heap.size, 0, none⟩) 1 1)).run Tryd.prog (wr.alloc (.cells #[.int .u8 (48 + (u : Int) % 10)] 5)) = .ok (.string ⟨[UInt8.ofNat (48 + u % 10)].toArray⟩) (wr.alloc (.cells #[.int .u8 (48 + (u : Int) % 10)] 5)) := by
        rw [← hx]
        exact run_convert_bytes_back (P := Tryd.prog) (wr.alloc (.cells #[.int .u8 ((UInt8.ofNat (48 + u % 10)).toNat : Int)] 5)) 46 9 5 ⟨wr.heap.size, 0, none⟩ 1 [UInt8.ofNat (48 + u % 10)] Tryd.underlying46 Tryd.underlying5 Tryd.underlying9 (fun j hj => by
          have e : j = 0 := by simpa using hj
          subst e
          exact cell_of_row _ _ 0 _ _ _ (heap_alloc_new wr _))
      have hsz : ((⟨[UInt8.ofNat (48 + u % 10)].toArray⟩ : ByteArray)).size = 1 := rfl
      have HB := Lib.hid (fun o => hbr.out.trans ((below_alloc wr o).mono hwr))
      have b1 : 0 ≤ (u : Int) % 10 := by omega
      have b2 : (u : Int) % 10 < 10 := by omega
      have b3 : 0 ≤ (u : Int) / 10 := by omega
      have b5 : (u : Int) / 10 < (u : Int) := by omega
      clear hx
      generalize (⟨[UInt8.ofNat (48 + u % 10)].toArray⟩ : ByteArray) = dg at *
      obtain ⟨P1, hP1⟩ : ∃ P1, P1 = dg ++ out := ⟨_, rfl⟩
      rw [← hP1] at HS
      have A1 : ∀ W, (Op.stringOp .add dg out).run Tryd.prog W = .ok (.string P1) W := fun W => by rw [hP1]; exact run_string_add_sum W _ _ (by omega)
      clear hP1 hsz hln
      go_wp2
      go_roundw
      case rel => exact ⟨u / 10, _, by omega, val64 (by rw [HQ.out]), rfl, HS.out, HB.out _⟩
      case measure => simp [intOf]; omega
    · have e : u = 0 := by omega
      subst e
      have HF : Hid ((⟨#[109]⟩ : ByteArray) ++ out = mk k) := by
        show (⟨#[109]⟩ : ByteArray) ++ out = mk k
        unfold mk
        congr 1
        apply dl_inj
        show dl out = (Lib.itoa (k : Int)).toArray.toList
        rw [Lib.itoa_nonneg, ← hd.out]
        rfl
      go_wp2
      go_ret
      exact ⟨ret_str HF.out, hbr.out⟩
end Go.Proofs.YtgjbpjpcihifnaaDoor.TxtU
