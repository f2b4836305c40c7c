/- Sections copied and reversed: the library's Clone and Reverse at sections. -/
import Derived.Test.YtcpppiafjlgimaaTrkT
import Derived.Shelf.SlicesQ.Reverse
import Derived.WalkSpells
namespace Go.Proofs
open Go.Shelf
def Try.turnSec_ren : Go.Shelf.Ren := ⟨fun | 35 => 34 | n => n, fun | 22 => 24 | 23 => 37 | 3 => 3 | 4 => 4 | 0 => 0 | n => n, fun | n => n⟩
theorem Try.turnSec : Go.Proofs.SlLaysE0.n35 Try.prog Try.turnSec_ren := {
  mixed := by kernel_rfl
  f35 := ⟨Try.f34.name, by decide, Try.func34.trans (congrArg some (by kernel_rfl))⟩
  t0 := Try.underlying0
  a0 := Try.isAgg0
  z0 := Try.sizeOf0
  v0 := Try.zeroValue0
  t3 := Try.underlying3
  a3 := Try.isAgg3
  z3 := Try.sizeOf3
  v3 := Try.zeroValue3
  t4 := Try.underlying4
  a4 := Try.isAgg4
  z4 := Try.sizeOf4
  v4 := Try.zeroValue4
  t22 := Try.underlying24
  a22 := Try.isAgg24
  z22 := Try.sizeOf24
  v22 := Try.zeroValue24 }
end Go.Proofs
namespace Go.Proofs.Ytcpppiafjlgimaa.TrkX
open Go.RowKit Go.Sort Go.Proofs.Ytcpppiafjlgimaa.Plain Go.Proofs.Ytcpppiafjlgimaa.TrkP Go.Proofs.Ytcpppiafjlgimaa.WalkA Go.Proofs.Ytcpppiafjlgimaa.TrkA Go.Proofs.Ytcpppiafjlgimaa.TrkB Go.Proofs.Ytcpppiafjlgimaa.TrkC Go.Proofs.Ytcpppiafjlgimaa.TrkD Go.Proofs.Ytcpppiafjlgimaa.TrkE Go.Proofs.Ytcpppiafjlgimaa.TrkR Go.Proofs.Ytcpppiafjlgimaa.TrkS Go.Proofs.Ytcpppiafjlgimaa.TrkT

def encS (p : Int × Int) : List Value := [.int .i64 p.1, .int .i64 p.2]
theorem flat_flatK (l : List (Int × Int)) (j : Nat) (hj : j < l.length * 2) : (flat l)[j]? = some ((flatK encS 2 l.toArray)[j]!) := by
  rw [get_flatK _ _ _ _ (by simpa using hj)]
  have hi : j / 2 < l.length := by omega
  obtain ⟨a, b⟩ := flat_at l (j / 2) hi
  have hx : (l.toArray[j / 2]!) = (secL l (j / 2), secG l (j / 2)) := by
    simp [secL, secG, hi]
  rw [hx]
  rcases Nat.mod_two_eq_zero_or_one j with h | h
  · have e : j = j / 2 * 2 := by omega
    rw [h]
    rw [← e] at a
    exact a
  · have e : j = j / 2 * 2 + 1 := by omega
    rw [h]
    rw [← e] at b
    exact b
theorem rev_holds {W : World} {B g n : Nat} {l : List (Int × Int)} (h : OwnT W B (some ⟨g, 0, none⟩) n l) (hn : 0 < n) : HoldsK encS 2 W g 0 l.toArray := by
  obtain ⟨g', cs, e, _, hr, hs, hc⟩ := h.2 hn
  injection e with e
  injection e with e
  subst e
  intro j hj
  have hj2 : j < l.length * 2 := by simpa using hj
  refine ⟨?_, hr.frozen _⟩
  rw [Nat.zero_add, hr.cell]
  have := flat_flatK l j hj2
  have hl := h.1
  obtain ⟨a, b⟩ := hc (j / 2) (by omega)
  obtain ⟨a', b'⟩ := flat_at l (j / 2) (by omega)
  rcases Nat.mod_two_eq_zero_or_one j with h | h
  · have e : j / 2 * 2 = j := by omega
    rw [e] at a a'
    rw [a, ← a']
    exact this
  · have e : j / 2 * 2 + 1 = j := by omega
    rw [e] at b b'
    rw [b, ← b']
    exact this
theorem rev_own {W : World} {B g n q : Nat} {l : List (Int × Int)} (h : OwnT W B (some ⟨g, 0, none⟩) n l) (hn : 0 < n) : OwnT (putRowK encS 2 (Sort.ahead W q) g 0 l.toArray.reverse) B (some ⟨g, 0, none⟩) n l.reverse := by
  obtain ⟨g', cs, e, hB, hr, hs, hc⟩ := h.2 hn
  injection e with e
  injection e with e
  subst e
  have hl := h.1
  refine ⟨by rw [List.length_reverse]; exact hl, fun _ => ⟨g, putCells id 0 (flatK encS 2 l.toArray.reverse) cs, rfl, hB, ?_, by simpa [putCells] using hs, fun i hi => ?_⟩⟩
  · unfold RowAt at hr ⊢
    simp [putRowK, putRow, mapBlock, Sort.ahead, Array.getElem?_modify, hr, onCells]
  · have hx : l.toArray.reverse = l.reverse.toArray := by simp
    obtain ⟨a, b⟩ := flat_at l.reverse i (by rw [List.length_reverse]; omega)
    have a2 := flat_flatK l.reverse (i * 2) (by rw [List.length_reverse]; omega)
    have b2 := flat_flatK l.reverse (i * 2 + 1) (by rw [List.length_reverse]; omega)
    rw [a] at a2
    rw [b] at b2
    rw [hx]
    constructor
    · simp only [putCells, Array.getElem?_mapIdx, Array.getElem?_eq_getElem (show i * 2 < cs.size by omega), Option.map_some]
      rw [if_pos (by simp; omega), Nat.sub_zero]
      exact a2.symm
    · simp only [putCells, Array.getElem?_mapIdx, Array.getElem?_eq_getElem (show i * 2 + 1 < cs.size by omega), Option.map_some]
      rw [if_pos (by simp; omega), Nat.sub_zero]
      exact b2.symm
theorem rev_grown (W : World) (g q : Nat) (d : Array (Int × Int)) : W.grownBy (putRowK encS 2 (Sort.ahead W q) g 0 d) (some g) :=
  ⟨rfl, rfl, rfl, by simp [putRowK, putRow, mapBlock, Sort.ahead], fun k _ hne => by
    have : g ≠ k := fun e => hne (by rw [e])
    simp [putRowK, putRow, mapBlock, Sort.ahead, Array.getElem?_modify, this]⟩
theorem reverse_any (g n c : Nat) (B : Nat) (l : List (Int × Int)) (w : World) (h : OwnT w B (some ⟨g, 0, none⟩) n l) (hn : 0 < n) (hm : n ≤ 1048576) :
    Calls Try.prog 34 #[.slice (some ⟨g, 0, none⟩) n c] w fun e w' => e = .returned (.tuple #[]) ∧ OwnT w' B (some ⟨g, 0, none⟩) n l.reverse ∧ w.grownBy w' (some g) := by
  have hl := h.1
  have k := AnyQ.slices_Reverse Try.turnSec 2 Try.isAgg37 Try.sizeOf37 encS (fun _ => rfl) (fun x v hv => by simp [encS] at hv; rcases hv with rfl | rfl <;> rfl) g 0 c l.toArray w (rev_holds h hn) (by simp; omega)
  rw [show l.toArray.size = n by simpa using hl] at k
  refine k.mono ?_
  rintro e w' ⟨rfl, q, rfl⟩
  exact ⟨rfl, rev_own h hn, rev_grown _ _ _ _⟩
theorem secs_news {w : World} {b off n : Nat} {l : List (Int × Int)} (hl : l.length = n) (hc : ∀ i, i < n → w.cell? ⟨b, off + i * 2, none⟩ = some (.int .i64 (secL l i)) ∧ w.cell? ⟨b, off + i * 2 + 1, none⟩ = some (.int .i64 (secG l i))) :
    ∀ j u, (flat l)[j]? = some u → w.cell? ((⟨b, off, none⟩ : Addr).add j) = some u := by
  intro j u hu
  have hj : j < (flat l).length := (List.getElem?_eq_some_iff.1 hu).1
  rw [flat_length] at hj
  have hadd : (⟨b, off, none⟩ : Addr).add j = ⟨b, off + j, none⟩ := by unfold Addr.add; split <;> simp_all
  rw [hadd]
  obtain ⟨a, a'⟩ := hc (j / 2) (by omega)
  obtain ⟨b, b'⟩ := flat_at l (j / 2) (by omega)
  rcases Nat.mod_two_eq_zero_or_one j with h | h
  · have e : off + j / 2 * 2 = off + j := by omega
    have e2 : j / 2 * 2 = j := by omega
    rw [e] at a
    rw [e2, hu] at b
    rw [a, ← b]
  · have e : off + j / 2 * 2 + 1 = off + j := by omega
    have e2 : j / 2 * 2 + 1 = j := by omega
    rw [e] at a'
    rw [e2, hu] at b'
    rw [a', ← b']
theorem clone_any (A : Option Addr) (n c : Nat) (l : List (Int × Int)) (w : World) (hs : Secs w w.heap.size A n l) (hn : 0 < n) (hm : n ≤ 1048576) :
    Calls Try.prog 33 #[.slice A n c] w fun e w' => ∃ g c', e = .returned (.slice (some ⟨g, 0, none⟩) n c') ∧ OwnT w' w.heap.size (some ⟨g, 0, none⟩) n l ∧ Below w.heap.size w w' := by
  obtain ⟨hl, h2⟩ := hs
  obtain ⟨b, off, rfl, hb, hc⟩ := h2 hn
  have HB := Lib.hid ((Below.refl w.heap.size w).alloc (Nat.le_refl _) (.cells #[] 37))
  have hc2 : ∀ i, i < n → (w.alloc (.cells #[] 37)).cell? ⟨b, off + i * 2, none⟩ = some (.int .i64 (secL l i)) ∧ (w.alloc (.cells #[] 37)).cell? ⟨b, off + i * 2 + 1, none⟩ = some (.int .i64 (secG l i)) := fun i hi =>
    ⟨(HB.out.cell (p := ⟨b, off + i * 2, none⟩) hb).trans (hc i hi).1, (HB.out.cell (p := ⟨b, off + i * 2 + 1, none⟩) hb).trans (hc i hi).2⟩
  have HN := Lib.hid (secs_news hl hc2)
  have HL := Lib.hid hl
  have HOW : Hid (World.ownsRow (w.alloc (.cells #[] 37)) w.heap.size 37 2 (.slice (some ⟨w.heap.size, 0, none⟩) 0 0) 0 []) := World.ownsRow_lit w #[] 0 (Nat.le_refl _) (by unfold maxLen; omega) rfl
  obtain ⟨i0, hi, hzz0, hzz1, hzz2⟩ := info_parts info_sec
  have hnil := fun (a : Addr) (len cap : Nat) (w : World) => Lib.run_eql_slice_nil (P := Try.prog) w 24 37 (some a) len cap 0 0 Try.underlying24
  clear hc hc2 h2 hl
  go_enter Try.func33, Try.ntmps33
  go_wp2_with (at_builtin; refine wpList_append_lies _ rfl _ _ 24 rfl w.heap.size 37 i0 (.agg #[.int .i64 0, .int .i64 0]) 2 16 Try.underlying24 hi hzz0 hzz1 hzz2 rfl (by decide) _ 0 [] rfl HOW.out ⟨b, off, none⟩ n c (flat l) rfl ?c0 HN.out (flat_one l) hn ?c4 ?c5 ?c6 _ rfl ?_)
  case c0 => rw [flat_length, HL.out]
  case c4 => unfold maxLen; omega
  case c5 => omega
  case c6 => first | omega | (simp; omega) | simp
  intro g cap w2 hown hgrow hat hlt2
  have HB2 : Hid (Below w.heap.size w w2) := HB.out.trans (grown_up hgrow (fun k hk => by simp [Value.ownBlock] at hk; omega) (by simp))
  have HO : Hid (w2.ownsRow w.heap.size 37 2 (.slice (some ⟨g, 0, none⟩) n cap) l.length (flat l)) := by
    show w2.ownsRow w.heap.size 37 2 (.slice (some ⟨g, 0, none⟩) n cap) l.length (flat l)
    rw [HL.out]
    simpa using hown
  clear hown hgrow hat hlt2
  go_wp2
  go_ret
  obtain ⟨A', c', e, ho⟩ := OwnT.of_row HO.out
  injection e with e1 e2 e3
  subst e1
  exact ⟨g, cap, rfl, HL.out ▸ ho, HB2.out⟩
end Go.Proofs.Ytcpppiafjlgimaa.TrkX
