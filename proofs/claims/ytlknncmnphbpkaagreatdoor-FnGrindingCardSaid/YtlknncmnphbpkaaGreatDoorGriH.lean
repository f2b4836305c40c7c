/- Whether a number stands in a list. -/
import Derived.Test.YtlknncmnphbpkaaGreatDoorGriI
import Derived.Deep.LoopGhost
namespace Go.Proofs.YtlknncmnphbpkaaGreatDoor.GriH
set_option maxRecDepth 100000
open Go.RowKit Go.Proofs.YtlknncmnphbpkaaGreatDoor.Plain Go.Proofs.YtlknncmnphbpkaaGreatDoor.GriI
def hasTo (l : List Int) (x : Int) : Nat → Bool
  | 0 => false
  | k + 1 => hasTo l x k || decide (iAt l k = x)
theorem b10Has_any (A : Option Addr) (n c : Nat) (l : List Int) (x : Int) (w : World) (hs : Ints w w.heap.size A n l) (hn : n ≤ 1048576) :
    Calls Tryz.prog 10 #[.slice A n c, .int .i64 x] w fun e w' => e = .returned (.bool (hasTo l x l.length)) ∧ w' = w := by
  have HS := Lib.hid hs
  obtain ⟨rfl, _⟩ := hs
  have HUP : Hid (∀ k, k ≤ l.length → hasTo l x k = true → hasTo l x l.length = true) := fun k hk h => by
    have : ∀ d, hasTo l x (k + d) = true := fun d => by
      induction d with
      | zero => exact h
      | succ d ih => show (hasTo l x (k + d) || _) = true; rw [ih]; rfl
    have h2 := this (l.length - k)
    rw [show k + (l.length - k) = l.length by omega] at h2
    exact h2
  obtain ⟨R, hR⟩ : ∃ R, R = hasTo l x l.length := ⟨_, rfl⟩
  rw [← hR]
  have HR := Lib.hid hR
  clear hR
  go_enter Tryz.func10, Tryz.ntmps10
  go_wp2
  go_loopg [5] l.length (fun g i wr => ∃ k : Nat, k ≤ l.length ∧ l.length - k ≤ g ∧ i = .int .i64 k ∧ wr = w ∧ Hid (hasTo l x k = false))
  case atStart => exact ⟨0, Nat.zero_le _, by omega, rfl, rfl, rfl⟩
  case round =>
    obtain ⟨k, hk, hg, rfl, rfl, HK⟩ := hrel
    by_cases hlt : k < l.length
    · obtain ⟨b, off, rfl, hb, hc⟩ := HS.out.2.2 (by omega)
      have c1 := hc k hlt
      clear hc
      have HT : Hid (iAt l k = x → R = true) := fun h => by rw [HR.out]; exact HUP.out (k + 1) hlt (by show (_ || _) = true; simp [h])
      have HF : Hid (¬ iAt l k = x → hasTo l x (k + 1) = false) := fun h => by show (_ || _) = false; rw [HK.out]; simp [h]
      generalize iAt l k = y at *
      by_cases hy : y = x
      · have HY := Lib.hid (HT.out hy)
        have hy2 : (y == x) = true := by rw [beq_iff_eq]; exact hy
        go_wp2
        go_ret
        exact ⟨by rw [HY.out]; rfl, rfl⟩
      · have HY := Lib.hid (HF.out hy)
        have hy2 : (y == x) = false := by rw [beq_eq_false_iff_ne]; exact hy
        go_wp2
        go_roundg (l.length - (k + 1))
        case measure => exact Nat.lt_of_lt_of_le (Nat.sub_lt_sub_left hlt (Nat.lt_succ_self k)) hg
        case rel => exact ⟨k + 1, hlt, Nat.le_refl _, by go_num, rfl, HY⟩
    · have e : k = l.length := by omega
      subst e
      go_wp2
      go_ret
      exact ⟨by rw [HR.out, HK.out]; rfl, rfl⟩
end Go.Proofs.YtlknncmnphbpkaaGreatDoor.GriH
