/- The laws' marks on lists of texts, and their comparison. -/
import Derived.Test.YtomkldkmaabbnaaDoorTxtT
import Derived.Test.YtomkldkmaabbnaaDoorTxtG
import Derived.Laws.Concat
import Derived.Deep.RegionHeld3
namespace Go.Proofs.YtomkldkmaabbnaaDoor.TxtU
open Go.RowKit Go.Proofs.YtomkldkmaabbnaaDoor.Plain Go.Proofs.YtomkldkmaabbnaaDoor.TxtA Go.Proofs.YtomkldkmaabbnaaDoor.TxtB Go.Proofs.YtomkldkmaabbnaaDoor.TxtC Go.Proofs.YtomkldkmaabbnaaDoor.TxtH Go.Proofs.YtomkldkmaabbnaaDoor.TxtS Go.Proofs.YtomkldkmaabbnaaDoor.TxtT Go.Proofs.YtomkldkmaabbnaaDoor.WalkA Go.Proofs.YtomkldkmaabbnaaDoor.WalkC

/-- Texts lie behind a slice. -/
def Strs (W : World) (A : Option Addr) (n : Nat) (l : List ByteArray) : Prop :=
  l.length = n ∧ (0 < n → ∃ g, A = some ⟨g, 0, none⟩ ∧ g < W.heap.size ∧ ∀ (j : Nat) x, l[j]? = some x → W.cell? ⟨g, j, none⟩ = some (.string x))
theorem OwnS.shape {W : World} {B : Nat} {v : Value} {l : List ByteArray} (h : OwnS W B v l) : ∃ A c, v = .slice A l.length c := by
  rcases h.2 with ⟨rfl, h0⟩ | ⟨g, cap, _, rfl, _⟩
  · exact ⟨none, 0, by rw [h0]⟩
  · exact ⟨_, _, rfl⟩
theorem OwnS.strs {W : World} {B : Nat} {A : Option Addr} {n c : Nat} {l : List ByteArray} (h : OwnS W B (.slice A n c) l) (hn : n = l.length) : Strs W A n l := by
  subst hn
  refine ⟨rfl, fun h0 => ?_⟩
  obtain ⟨g, cap, e, _, hg, hc⟩ := h.form h0
  injection e with e1 e2 e3
  exact ⟨g, e1, hg, fun j x hx => by have := hc j x hx; rw [Nat.zero_add] at this; exact this⟩
/-- The text of a mark. -/
def mk (k : Nat) : ByteArray := ⟨#[109]⟩ ++ dec (k : Int)
theorem decDigits_small {k : Nat} (hk : k ≤ 4194304) {l : List UInt8} {v : Nat} (h : D0 v ++ l = Lib.decDigits k) : l.length ≤ 21 := by
  have := digits_len (u := k) (l := l.reverse) (v := v) (by omega) (by rw [List.reverse_reverse]; exact h)
  simpa using this
theorem one_add (x : UInt8) (out : ByteArray) : (⟨[x].toArray⟩ : ByteArray) ++ out = ⟨(x :: dl out).toArray⟩ := by
  apply dl_inj
  show (((⟨[x].toArray⟩ : ByteArray) ++ out).data).toList = _
  rw [ByteArray.data_append, Array.toList_append]
  simp [dl]
end Go.Proofs.YtomkldkmaabbnaaDoor.TxtU
