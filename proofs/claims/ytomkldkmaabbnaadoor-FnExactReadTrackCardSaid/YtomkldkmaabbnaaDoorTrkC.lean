/- The walks of the laws' own helpers on tracks: how large one is, its copy, whether two are equal. -/
import Derived.Test.YtomkldkmaabbnaaDoorTrkA
namespace Go.Proofs.YtomkldkmaabbnaaDoor.TrkC
open Go.RowKit Go.Proofs.YtomkldkmaabbnaaDoor.Plain Go.Proofs.YtomkldkmaabbnaaDoor.TrkP Go.Proofs.YtomkldkmaabbnaaDoor.WalkA Go.Proofs.YtomkldkmaabbnaaDoor.TrkA

/-- Block g is just these cells, none frozen. -/
def RowAt (w : World) (g : Nat) (t : TypeId) (cs : Array Value) : Prop := w.heap[g]? = some (.cells cs t (0, 0))
theorem RowAt.lt {w : World} {g : Nat} {t : TypeId} {cs : Array Value} (h : RowAt w g t cs) : g < w.heap.size := by
  rcases Nat.lt_or_ge g w.heap.size with hlt | hge
  · exact hlt
  · unfold RowAt at h; rw [Array.getElem?_eq_none hge] at h; cases h
theorem RowAt.cell {w : World} {g : Nat} {t : TypeId} {cs : Array Value} (h : RowAt w g t cs) (i : Nat) : w.cell? ⟨g, i, none⟩ = cs[i]? := cell_of_row w g i cs t (0, 0) h
theorem RowAt.frozen {w : World} {g : Nat} {t : TypeId} {cs : Array Value} (h : RowAt w g t cs) (i : Nat) : w.frozen? ⟨g, i, none⟩ = false := by
  unfold RowAt at h
  simp [World.frozen?, h]
theorem RowAt.new (w : World) (t : TypeId) (cs : Array Value) : RowAt (w.alloc (.cells cs t)) w.heap.size t cs := heap_alloc_new w _
theorem RowAt.below {w w' : World} {g B : Nat} {t : TypeId} {cs : Array Value} (h : RowAt w g t cs) (hb : Below B w w') (hg : g < B) : RowAt w' g t cs := (hb.block g hg).trans h
theorem RowAt.store {w : World} {g : Nat} {t : TypeId} {cs : Array Value} (h : RowAt w g t cs) (i : Nat) (u : Value) : RowAt (w.setCell ⟨g, i, none⟩ u) g t (cs.setIfInBounds i u) := by
  unfold RowAt at h ⊢
  simp [World.setCell, Array.getElem?_modify, h]

def szI (n : Nat) : Int := if (n : Int) ≤ 1048576 then 1048576 - (n : Int) else -1
theorem szI_in {n : Nat} (h : (n : Int) ≤ 1048576) : szI n = 1048576 - (n : Int) := if_pos h
theorem szI_out {n : Nat} (h : ¬ (n : Int) ≤ 1048576) : szI n = -1 := if_neg h
theorem info_sec : (Tryd.prog.info? 35).map (fun i => (i.zero, i.size, i.bytes)) = some (some (.agg #[.int .i64 0, .int .i64 0]), 2, 16) := by kernel_rfl
/-- A new slice of sections with those of l. -/
def NewSecs (w : World) (l : List (Int × Int)) (e : Ending) (w' : World) : Prop :=
  ∃ c, e = .returned (.slice (some ⟨w.heap.size, 0, none⟩) l.length c) ∧ Secs w' w'.heap.size (some ⟨w.heap.size, 0, none⟩) l.length l ∧ Below w.heap.size w w' ∧ w.heap.size < w'.heap.size
/-- The cells of a row whose first k sections are laid. -/
def Filled (cs : Array Value) (l : List (Int × Int)) (k : Nat) : Prop := cs.size = l.length * 2 ∧ ∀ j, j < k → cs[j * 2]? = some (.int .i64 (secL l j)) ∧ cs[j * 2 + 1]? = some (.int .i64 (secG l j))
theorem Filled.step {cs : Array Value} {l : List (Int × Int)} {k : Nat} (h : Filled cs l k) (hk : k < l.length) :
    Filled ((cs.setIfInBounds (k * 2) (.int .i64 (secL l k))).setIfInBounds (k * 2 + 1) (.int .i64 (secG l k))) l (k + 1) := by
  obtain ⟨h1, h2⟩ := h
  refine ⟨by simpa using h1, fun j hj => ?_⟩
  by_cases e : j = k
  · subst e
    constructor
    · rw [Array.getElem?_setIfInBounds_ne (by omega), Array.getElem?_setIfInBounds_self_of_lt (by omega)]
    · rw [Array.getElem?_setIfInBounds_self_of_lt (by simp; omega)]
  · obtain ⟨a, b⟩ := h2 j (by omega)
    rw [Array.getElem?_setIfInBounds_ne (by omega), Array.getElem?_setIfInBounds_ne (by omega), Array.getElem?_setIfInBounds_ne (by omega), Array.getElem?_setIfInBounds_ne (by omega)]
    exact ⟨a, b⟩
theorem Filled.secs {cs : Array Value} {l : List (Int × Int)} {w : World} {g : Nat} {t : TypeId} (h : Filled cs l l.length) (hr : RowAt w g t cs) : Secs w w.heap.size (some ⟨g, 0, none⟩) l.length l :=
  ⟨rfl, fun _ => ⟨g, 0, rfl, hr.lt, fun i hi => by
    obtain ⟨a, b⟩ := h.2 i hi
    rw [hr.cell, hr.cell]
    simp only [Nat.zero_add]
    exact ⟨a, b⟩⟩⟩
/-- A new slice of sections with those of l, and the row behind it. -/
def NewSecsR (w : World) (l : List (Int × Int)) (e : Ending) (w' : World) : Prop :=
  ∃ c cs, e = .returned (.slice (some ⟨w.heap.size, 0, none⟩) l.length c) ∧ Secs w' w'.heap.size (some ⟨w.heap.size, 0, none⟩) l.length l ∧ Below w.heap.size w w' ∧ w.heap.size < w'.heap.size ∧ RowAt w' w.heap.size 35 cs ∧ cs.size = l.length * 2
theorem RowAt.far {w : World} {g : Nat} {t : TypeId} {cs : Array Value} (h : RowAt w g t cs) {p : Addr} (hp : p.block ≠ g) (u : Value) : RowAt (w.setCell p u) g t cs :=
  (Below.heap_setCell w p u g (fun e => hp e.symm)).trans h
theorem secs_far {w : World} {B g off n : Nat} {l : List (Int × Int)} (h : Secs w B (some ⟨g, off, none⟩) n l) {p : Addr} (hp : p.block ≠ g) (u : Value) : Secs (w.setCell p u) B (some ⟨g, off, none⟩) n l :=
  ⟨h.1, fun hn => by
    obtain ⟨b, o, e, hlt, hc⟩ := h.2 hn
    injection e with e
    injection e with e1 e2
    subst e1; subst e2
    refine ⟨g, off, rfl, hlt, fun i hi => ?_⟩
    obtain ⟨c1, c2⟩ := hc i hi
    exact ⟨(World.cell?_setCell_other w p _ u (fun e => hp (by rw [e]))).trans c1, (World.cell?_setCell_other w p _ u (fun e => hp (by rw [e]))).trans c2⟩⟩
/-- A copy of a track, and the row behind it. -/
def NewTrackR (w : World) (l : List (Int × Int)) (lf lu : Int) (e : Ending) (w' : World) : Prop :=
  ∃ g c cs, e = .returned (.agg #[.slice (some ⟨g, 0, none⟩) l.length c, .int .i64 lf, .int .i64 lu]) ∧ w.heap.size ≤ g ∧ g < w'.heap.size ∧ Secs w' w'.heap.size (some ⟨g, 0, none⟩) l.length l ∧ Below w.heap.size w w' ∧ RowAt w' g 35 cs ∧ cs.size = l.length * 2
/-- A copy of a track. -/
def NewTrack (w : World) (l : List (Int × Int)) (lf lu : Int) (e : Ending) (w' : World) : Prop :=
  ∃ g c, e = .returned (.agg #[.slice (some ⟨g, 0, none⟩) l.length c, .int .i64 lf, .int .i64 lu]) ∧ w.heap.size ≤ g ∧ g < w'.heap.size ∧ Secs w' w'.heap.size (some ⟨g, 0, none⟩) l.length l ∧ Below w.heap.size w w'
/-- Three cells of a row, as facts of their own; none is frozen. -/
theorem RowAt.three {w : World} {g : Nat} {t : TypeId} {a b c : Value} (h : RowAt w g t #[a, b, c]) :
    w.cell? ⟨g, 0, none⟩ = some a ∧ w.cell? ⟨g, 1, none⟩ = some b ∧ w.cell? ⟨g, 2, none⟩ = some c ∧ w.frozen? ⟨g, 0, none⟩ = false ∧ w.frozen? ⟨g, 1, none⟩ = false ∧ w.frozen? ⟨g, 2, none⟩ = false :=
  ⟨h.cell 0, h.cell 1, h.cell 2, h.frozen 0, h.frozen 1, h.frozen 2⟩
theorem rows_three (w : World) (t1 t2 t3 : TypeId) (c1 c2 c3 : Array Value) :
    RowAt (((w.alloc (.cells c1 t1)).alloc (.cells c2 t2)).alloc (.cells c3 t3)) w.heap.size t1 c1 ∧ RowAt (((w.alloc (.cells c1 t1)).alloc (.cells c2 t2)).alloc (.cells c3 t3)) (w.heap.size + 1) t2 c2 ∧
    RowAt (((w.alloc (.cells c1 t1)).alloc (.cells c2 t2)).alloc (.cells c3 t3)) (w.heap.size + 1 + 1) t3 c3 := by
  have b1 : ∀ (W : World) (o : Obj), Below W.heap.size W (W.alloc o) := fun W o => (Below.refl _ _).alloc (Nat.le_refl _) _
  have h1 := RowAt.new w t1 c1
  have h2 := RowAt.new (w.alloc (.cells c1 t1)) t2 c2
  have h3 := RowAt.new ((w.alloc (.cells c1 t1)).alloc (.cells c2 t2)) t3 c3
  have s1 : (w.alloc (.cells c1 t1)).heap.size = w.heap.size + 1 := by simp
  have s2 : ((w.alloc (.cells c1 t1)).alloc (.cells c2 t2)).heap.size = w.heap.size + 1 + 1 := by simp
  refine ⟨(h1.below (b1 _ _) (by omega)).below (b1 _ _) (by omega), ?_, ?_⟩
  · rw [← s1]; exact h2.below (b1 _ _) (by omega)
  · rw [← s2]; exact h3
theorem rows_two (w : World) (t1 t2 : TypeId) (c1 c2 : Array Value) :
    RowAt ((w.alloc (.cells c1 t1)).alloc (.cells c2 t2)) w.heap.size t1 c1 ∧ RowAt ((w.alloc (.cells c1 t1)).alloc (.cells c2 t2)) (w.heap.size + 1) t2 c2 := by
  have b1 : ∀ (W : World) (o : Obj), Below W.heap.size W (W.alloc o) := fun W o => (Below.refl _ _).alloc (Nat.le_refl _) _
  have h1 := RowAt.new w t1 c1
  have h2 := RowAt.new (w.alloc (.cells c1 t1)) t2 c2
  have s1 : (w.alloc (.cells c1 t1)).heap.size = w.heap.size + 1 := by simp
  refine ⟨h1.below (b1 _ _) (by omega), ?_⟩
  rw [← s1]; exact h2
theorem eqSection_any (x y : Int) (w : World) : Calls Tryd.prog 31 #[.agg #[.int .i64 x, .int .i64 y], .agg #[.int .i64 x, .int .i64 y]] w fun e w' => e = .returned (.bool true) ∧ Below w.heap.size w w' := by
  have hb : Hid (∀ o1 o2, Below w.heap.size w ((w.alloc o1).alloc o2)) := fun o1 o2 => ((Below.refl _ _).alloc (Nat.le_refl _) _).alloc (by simp) _
  go_enter Tryd.func31, Tryd.ntmps31
  go_wp2
  go_ret
  exact ⟨rfl, hb.out _ _⟩
theorem keep4 {wr wc w2 : World} {b b' o1 o2 o3 o4 : Nat} {v1 v2 v3 v4 : Value} (hb : b < wr.heap.size) (hb' : b' < wr.heap.size)
    (h1 : wc.cell? ⟨b, o1, none⟩ = some v1) (h2 : wc.cell? ⟨b, o2, none⟩ = some v2) (h3 : wc.cell? ⟨b', o3, none⟩ = some v3) (h4 : wc.cell? ⟨b', o4, none⟩ = some v4) (h5 : Below wr.heap.size wr wc) (h : Below wc.heap.size wc w2) :
    w2.cell? ⟨b, o1, none⟩ = some v1 ∧ w2.cell? ⟨b, o2, none⟩ = some v2 ∧ w2.cell? ⟨b', o3, none⟩ = some v3 ∧ w2.cell? ⟨b', o4, none⟩ = some v4 ∧ Below wr.heap.size wr w2 :=
  ⟨(h.cell (p := ⟨b, o1, none⟩) (Nat.lt_of_lt_of_le hb h5.size)).trans h1, (h.cell (p := ⟨b, o2, none⟩) (Nat.lt_of_lt_of_le hb h5.size)).trans h2, (h.cell (p := ⟨b', o3, none⟩) (Nat.lt_of_lt_of_le hb' h5.size)).trans h3, (h.cell (p := ⟨b', o4, none⟩) (Nat.lt_of_lt_of_le hb' h5.size)).trans h4, h5.trans (h.mono h5.size)⟩
theorem eqSecs_any (A A' : Option Addr) (n c c' : Nat) (l : List (Int × Int)) (w : World) (hs : Secs w w.heap.size A n l) (hs' : Secs w w.heap.size A' n l) (hn : n ≤ 9223372036854775807) :
    Calls Tryd.prog 17 #[.slice A n c, .slice A' n c'] w fun e w' => e = .returned (.bool true) ∧ Below w.heap.size w w' := by
  have HS := Lib.hid hs
  have HS' := Lib.hid hs'
  obtain ⟨rfl, _⟩ := hs
  clear hs'
  go_enter Tryd.func17, Tryd.ntmps17
  go_wp2
  go_loopw [5] (fun i wr => ∃ k : Nat, k ≤ l.length ∧ i = .int .i64 k ∧ Below w.heap.size w wr) (fun i _ => l.length - (intOf i).toNat)
  case atStart => exact ⟨0, Nat.zero_le _, rfl, Below.refl _ _⟩
  case round =>
    obtain ⟨k, hk, rfl, hbr⟩ := hrel
    have HBR := Lib.hid hbr
    by_cases hlt : k < l.length
    · obtain ⟨b, off, rfl, hb, hc⟩ := (HS.out.below hbr hbr.size).2 (by omega)
      obtain ⟨b', off', rfl, hb', hc'⟩ := (HS'.out.below hbr hbr.size).2 (by omega)
      obtain ⟨c1, c2⟩ := hc k hlt
      obtain ⟨c3, c4⟩ := hc' k hlt
      clear hc hc' hbr
      go_wp2
      go_region_held3 (fun w' => w'.cell? ⟨b, off + k * 2, none⟩ = some (.int .i64 (secL l k)) ∧ w'.cell? ⟨b, off + k * 2 + 1, none⟩ = some (.int .i64 (secG l k)) ∧ w'.cell? ⟨b', off' + k * 2, none⟩ = some (.int .i64 (secL l k)) ∧ w'.cell? ⟨b', off' + k * 2 + 1, none⟩ = some (.int .i64 (secG l k)) ∧ Below wr.heap.size wr w')
        (first | exact ⟨c1, c2, c3, c4, (Below.refl _ _).drew⟩ | (go_split_ands; exact keep4 hb hb' (by assumption) (by assumption) (by assumption) (by assumption) (by assumption) (by assumption)))
        (first | (go_at_call 31; refine (eqSection_any _ _ _).mono ?_; rintro e w2 ⟨rfl, hb2⟩))
      have HBB : Hid (∀ wx : World, Below wr.heap.size wr wx → Below w.heap.size w wx) := fun wx hx => HBR.out.trans (hx.mono HBR.out.size)
      go_wp2
      go_roundw
      case rel => exact ⟨k + 1, by omega, by go_num, HBB.out _ (by go_split_ands; assumption)⟩
      case measure => simp [intOf]; omega
    · have e : k = l.length := by omega
      subst e
      clear hbr
      go_wp2
      go_ret
      exact ⟨rfl, HBR.out⟩
theorem eqTrack_any (A A' : Option Addr) (n c c' : Nat) (lf lu : Int) (l : List (Int × Int)) (w : World) (hs : Secs w w.heap.size A n l) (hs' : Secs w w.heap.size A' n l) (hn : n ≤ 9223372036854775807) :
    Calls Tryd.prog 6 #[.agg #[.slice A n c, .int .i64 lf, .int .i64 lu], .agg #[.slice A' n c', .int .i64 lf, .int .i64 lu]] w fun e w' => e = .returned (.bool true) ∧ Below w.heap.size w w' := by
  have HE := Lib.hid (fun (W : World) (hb : Below w.heap.size w W) => eqSecs_any A A' n c c' l W (hs.below hb hb.size) (hs'.below hb hb.size) hn)
  have hb : Hid (∀ o1 o2, Below w.heap.size w ((w.alloc o1).alloc o2)) := fun o1 o2 => ((Below.refl _ _).alloc (Nat.le_refl _) _).alloc (by simp) _
  have HR := Lib.hid (rows_two w 24 24 #[.slice A n c, .int .i64 lf, .int .i64 lu] #[.slice A' n c', .int .i64 lf, .int .i64 lu])
  have hsz : ((w.alloc (.cells #[.slice A n c, .int .i64 lf, .int .i64 lu] 24)).alloc (.cells #[.slice A' n c', .int .i64 lf, .int .i64 lu] 24)).heap.size = w.heap.size + 1 + 1 := by simp
  have HSZ := Lib.hid hsz
  clear hsz
  have HB := Lib.hid (hb.out (.cells #[.slice A n c, .int .i64 lf, .int .i64 lu] 24) (.cells #[.slice A' n c', .int .i64 lf, .int .i64 lu] 24))
  clear hs hs'
  go_enter Tryd.func6, Tryd.ntmps6
  go_wp2_with fail
  generalize (w.alloc (.cells #[.slice A n c, .int .i64 lf, .int .i64 lu] 24)).alloc (.cells #[.slice A' n c', .int .i64 lf, .int .i64 lu] 24) = W2 at *
  refine (HE.out _ HB.out).mono ?_
  rintro e w1 ⟨rfl, hb1⟩
  have HB1 := Lib.hid hb1
  have hsz := HSZ.out
  obtain ⟨r1, r2⟩ := HR.out
  obtain ⟨a0, a1, a2, _, _, _⟩ := (r1.below hb1 (by omega)).three
  obtain ⟨b0, b1, b2, _, _, _⟩ := (r2.below hb1 (by omega)).three
  clear hb1 hsz r1 r2
  go_wp2
  go_ret
  exact ⟨rfl, HB.out.trans (HB1.out.mono (by have := HSZ.out; omega))⟩
end Go.Proofs.YtomkldkmaabbnaaDoor.TrkC
