/- A bend's text, program and reference; its law. -/
import Derived.Test.YtlknncmnphbpkaaGreatDoorTxtG
import Derived.Test.YtlknncmnphbpkaaGreatDoorBOpen
import Derived.Test.YtlknncmnphbpkaaGreatDoorTxtX
import Derived.Laws.Concat
import Derived.Deep.RegionHeld3
namespace Go.Proofs.YtlknncmnphbpkaaGreatDoor.TxtI
set_option maxRecDepth 100000
open Go.RowKit Go.Proofs.YtlknncmnphbpkaaGreatDoor.Plain Go.Proofs.YtlknncmnphbpkaaGreatDoor.TxtA Go.Proofs.YtlknncmnphbpkaaGreatDoor.TxtB Go.Proofs.YtlknncmnphbpkaaGreatDoor.TxtG Go.Proofs.YtlknncmnphbpkaaGreatDoor.TxtH Go.Proofs.YtlknncmnphbpkaaGreatDoor.WalkA Go.Proofs.YtlknncmnphbpkaaGreatDoor.WalkB Go.Proofs.YtlknncmnphbpkaaGreatDoor.WalkC Go.Proofs.YtlknncmnphbpkaaGreatDoor.WalkF Go.Proofs.YtlknncmnphbpkaaGreatDoor.WalkH Go.Proofs.YtlknncmnphbpkaaGreatDoor.BndA Go.Proofs.YtlknncmnphbpkaaGreatDoor.BLaw Go.Proofs.YtlknncmnphbpkaaGreatDoor.TxtX

theorem fits3 {r l c : Int} (hr : 10000 ≤ r ∧ r ≤ 10000000) (hl : 1000 ≤ l ∧ l ≤ 1000000) (hc : 0 ≤ c ∧ c ≤ 200) : fits [r, l, c] = true := by
  have h : bad [r, l, c] = false := bad_none fun k hk => inB_iff.2 (by
    have : k = 0 ∨ k = 1 ∨ k = 2 := by simp at hk; omega
    rcases this with rfl | rfl | rfl
    · show -1000000000000 ≤ r ∧ r ≤ 1000000000000; omega
    · show -1000000000000 ≤ l ∧ l ≤ 1000000000000; omega
    · show -1000000000000 ≤ c ∧ c ≤ 1000000000000; omega)
  unfold fits
  rw [h]
  rfl
theorem three_ints (W : World) (r l c : Int) (hr : 10000 ≤ r ∧ r ≤ 10000000) (hl : 1000 ≤ l ∧ l ≤ 1000000) (hc : 0 ≤ c ∧ c ≤ 200) :
    Ints (W.alloc (.cells #[.int .i64 r, .int .i64 l, .int .i64 c] 2)) (W.alloc (.cells #[.int .i64 r, .int .i64 l, .int .i64 c] 2)).heap.size (some ⟨W.heap.size, 0, none⟩) 3 [r, l, c] := by
  have hrow := heap_alloc_new W (.cells #[.int .i64 r, .int .i64 l, .int .i64 c] 2)
  refine ⟨rfl, fun k hk => ?_, fun _ => ⟨W.heap.size, 0, rfl, by simp, fun k hk => ?_⟩⟩
  · have : k = 0 ∨ k = 1 ∨ k = 2 := by omega
    rcases this with rfl | rfl | rfl
    · show -9223372036854775808 ≤ r ∧ r ≤ 9223372036854775807; omega
    · show -9223372036854775808 ≤ l ∧ l ≤ 9223372036854775807; omega
    · show -9223372036854775808 ≤ c ∧ c ≤ 9223372036854775807; omega
  · rw [Nat.zero_add]
    have : k = 0 ∨ k = 1 ∨ k = 2 := by omega
    rcases this with rfl | rfl | rfl
    · exact cell_of_row _ _ 0 _ _ _ hrow
    · exact cell_of_row _ _ 1 _ _ _ hrow
    · exact cell_of_row _ _ 2 _ _ _ hrow
theorem ints_drew {W : World} {B : Nat} {A : Option Addr} {n : Nat} {l : List Int} (h : Ints W B A n l) : Ints W.drew B A n l := h
theorem list3_size {r l c : Int} (hr : 10000 ≤ r ∧ r ≤ 10000000) (hl : 1000 ≤ l ∧ l ≤ 1000000) (hc : 0 ≤ c ∧ c ≤ 200) : (listP [r, l, c]).size ≤ 66 := by
  have hz : ∀ k, k < [r, l, c].length → -9223372036854775808 ≤ iAt [r, l, c] k ∧ iAt [r, l, c] k ≤ 9223372036854775807 := fun k hk => by
    have : k = 0 ∨ k = 1 ∨ k = 2 := by simp at hk; omega
    rcases this with rfl | rfl | rfl
    · show -9223372036854775808 ≤ r ∧ r ≤ 9223372036854775807; omega
    · show -9223372036854775808 ≤ l ∧ l ≤ 9223372036854775807; omega
    · show -9223372036854775808 ≤ c ∧ c ≤ 9223372036854775807; omega
  have a := jn_size hz 3 (Nat.le_refl _)
  have e0 : jn [r, l, c] 3 = ⟨(textOf [r, l, c]).toArray⟩ := jn_list (l := [r, l, c]) (by simp)
  have e : jn [r, l, c] 3 = listP [r, l, c] := by rw [e0]; rfl
  rw [← e]
  exact a
theorem keepA {p : Nat} {W wc : World} {v0 v1 v2 v3 : Value} (hp : p < W.heap.size) (h0 : wc.cell? ⟨p, 0, none⟩ = some v0) (h1 : wc.cell? ⟨p, 1, none⟩ = some v1) (h2 : wc.cell? ⟨p, 2, none⟩ = some v2) (h3 : wc.cell? ⟨p, 3, none⟩ = some v3) (hb : Below W.heap.size W wc) (ob : Obj) :
    (wc.alloc ob).cell? ⟨p, 0, none⟩ = some v0 ∧ (wc.alloc ob).cell? ⟨p, 1, none⟩ = some v1 ∧ (wc.alloc ob).cell? ⟨p, 2, none⟩ = some v2 ∧ (wc.alloc ob).cell? ⟨p, 3, none⟩ = some v3 ∧ Below W.heap.size W (wc.alloc ob) :=
  keepB hp h0 h1 h2 h3 hb (below_alloc wc ob)

theorem implBendText_any (s : ByteArray) (r l c : Int) (hz : s.size ≤ 9223372036854775807) (w : World) (ht : Tab w) :
    Calls Tryz.prog 16 #[.agg #[.string s, .int .i64 r, .int .i64 l, .int .i64 c]] w fun e w' => e = .returned (.string (bendP s r l c)) ∧ Below w.heap.size w w' := by
  have HV := Lib.hid (fun W => validBend_any s r l c hz W)
  obtain ⟨q0, q1, q2, q3, q4, q5⟩ := boxed4 w 25 (.string s) (.int .i64 r) (.int .i64 l) (.int .i64 c)
  have HB := Lib.hid q4
  have hp : w.heap.size < (w.alloc (.cells #[.string s, .int .i64 r, .int .i64 l, .int .i64 c] 25)).heap.size := by omega
  clear q4 q5
  unfold bendP
  cases hv : bendB s r l c
  · rw [hv] at HV
    rw [if_neg (by decide)]
    clear ht hz
    go_enter Tryz.func16, Tryz.ntmps16
    go_wp2_with fail
    generalize w.alloc (.cells #[.string s, .int .i64 r, .int .i64 l, .int .i64 c] 25) = W0 at *
    have HB2 : Hid (∀ W, Below W0.heap.size W0 W → Below w.heap.size w W) := fun W hW => HB.out.trans (hW.mono (by omega))
    have b := Below.refl W0.heap.size W0
    refine (HV.out _).mono ?_
    rintro e w1 ⟨rfl, hb⟩
    have z := keepB hp q0 q1 q2 q3 b hb
    clear q0 q1 q2 q3 b hb
    obtain ⟨q0, q1, q2, q3, b⟩ := z
    go_wp2_with fail
    go_ret
    exact ⟨rfl, HB2.out _ b⟩
  · rw [hv] at HV
    rw [if_pos rfl]
    obtain ⟨hnm, hr, hl, hc⟩ := bendB_iff.1 hv
    have hs10 : s.size ≤ 10 := by
      rcases Nat.lt_or_ge 10 s.size with h | h
      · rw [nameB_long h] at hnm; cases hnm
      · exact h
    have HLD : Hid (∀ W, Below w.heap.size w W → Calls Tryz.prog 45 #[.slice (some ⟨W.heap.size, 0, none⟩) 3 3] (W.alloc (.cells #[.int .i64 r, .int .i64 l, .int .i64 c] 2)).drew fun e w' => e = .returned (.string (listP [r, l, c])) ∧ Below (W.alloc (.cells #[.int .i64 r, .int .i64 l, .int .i64 c] 2)).drew.heap.size (W.alloc (.cells #[.int .i64 r, .int .i64 l, .int .i64 c] 2)).drew w') := fun W hW => by
      have hd : Below W.heap.size W (W.alloc (.cells #[.int .i64 r, .int .i64 l, .int .i64 c] 2)).drew := (below_alloc W _).drew
      have := implListText_any (some ⟨W.heap.size, 0, none⟩) 3 3 [r, l, c] _ (ints_drew (three_ints W r l c hr hl hc)) (by omega) ((ht.below hW).below hd)
      unfold listT at this
      rw [if_pos (fits3 hr hl hc)] at this
      exact this
    have HL : Hid (∀ W, Below w.heap.size w W → Calls Tryz.prog 45 #[.slice (some ⟨W.heap.size, 0, none⟩) 3 3] (W.alloc (.cells #[.int .i64 r, .int .i64 l, .int .i64 c] 2)) fun e w' => e = .returned (.string (listP [r, l, c])) ∧ Below (W.alloc (.cells #[.int .i64 r, .int .i64 l, .int .i64 c] 2)).heap.size (W.alloc (.cells #[.int .i64 r, .int .i64 l, .int .i64 c] 2)) w') := fun W hW => by
      have hd := below_alloc W (.cells #[.int .i64 r, .int .i64 l, .int .i64 c] 2)
      have := implListText_any (some ⟨W.heap.size, 0, none⟩) 3 3 [r, l, c] _ (three_ints W r l c hr hl hc) (by omega) ((ht.below hW).below hd)
      unfold listT at this
      rw [if_pos (fits3 hr hl hc)] at this
      exact this
    have s1 : (s ++ (⟨#[32]⟩ : ByteArray)).size = s.size + 1 := by rw [ByteArray.size_append]; rfl
    have s2 := list3_size hr hl hc
    obtain ⟨P1, hP1⟩ : ∃ P1, P1 = s ++ (⟨#[32]⟩ : ByteArray) := ⟨_, rfl⟩
    obtain ⟨P2, hP2⟩ : ∃ P2, P2 = P1 ++ listP [r, l, c] := ⟨_, rfl⟩
    have A1 : ∀ W, (Op.stringOp .add s ⟨#[32]⟩).run Tryz.prog W = .ok (.string P1) W := fun W => by rw [hP1]; exact run_string_add_sum W _ _ (by show s.size + 1 ≤ _; omega)
    have A2 : ∀ W, (Op.stringOp .add P1 (listP [r, l, c])).run Tryz.prog W = .ok (.string P2) W := fun W => by rw [hP2]; exact run_string_add_sum W _ _ (by rw [hP1]; omega)
    have eP : bendQ s r l c = P2 := by unfold bendQ; rw [hP2, hP1]
    rw [eP]
    clear eP hP1 hP2 s1 s2
    generalize listP [r, l, c] = LP at *
    clear ht hz hnm hr hl hc hs10 hv
    go_enter Tryz.func16, Tryz.ntmps16
    go_wp2_with fail
    generalize w.alloc (.cells #[.string s, .int .i64 r, .int .i64 l, .int .i64 c] 25) = W0 at *
    have HB2 : Hid (∀ W, Below W0.heap.size W0 W → Below w.heap.size w W) := fun W hW => HB.out.trans (hW.mono (by omega))
    have b := Below.refl W0.heap.size W0
    refine (HV.out _).mono ?_
    rintro e w1 ⟨rfl, hb⟩
    have z := keepB hp q0 q1 q2 q3 b hb
    clear q0 q1 q2 q3 b hb
    obtain ⟨q0, q1, q2, q3, b⟩ := z
    go_wp2_with fail
    have HL2 := Lib.hid (fun W hW => HL.out W (HB2.out W hW))
    have HL2D := Lib.hid (fun W hW => HLD.out W (HB2.out W hW))
    clear HL HLD
    go_region_held3 (fun w' => w'.cell? ⟨w.heap.size, 0, none⟩ = some (.string s) ∧ w'.cell? ⟨w.heap.size, 1, none⟩ = some (.int .i64 r) ∧ w'.cell? ⟨w.heap.size, 2, none⟩ = some (.int .i64 l) ∧ w'.cell? ⟨w.heap.size, 3, none⟩ = some (.int .i64 c) ∧ Below W0.heap.size W0 w')
      (first | exact ⟨q0, q1, q2, q3, b.drew⟩ | (go_split_ands; exact keepA hp (by assumption) (by assumption) (by assumption) (by assumption) (by assumption) _) | (go_split_ands; exact BndA.keepB hp (by assumption) (by assumption) (by assumption) (by assumption) (by assumption) (by assumption)))
      (first | (go_at_call 45; refine (HL2.out _ (by assumption)).mono ?_; rintro e w3 ⟨rfl, hb3⟩) | (go_at_call 45; refine (HL2D.out _ (by assumption)).mono ?_; rintro e w3 ⟨rfl, hb3⟩))
    go_wp2
    go_ret
    exact ⟨rfl, HB2.out _ (by go_split_ands; assumption)⟩

end Go.Proofs.YtlknncmnphbpkaaGreatDoor.TxtI
