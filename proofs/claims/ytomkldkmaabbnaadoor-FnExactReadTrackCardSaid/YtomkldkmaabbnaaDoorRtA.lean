/- The walks of tracks read from their texts, program and reference. -/
import Derived.Test.YtomkldkmaabbnaaDoorTkA
import Derived.Test.YtomkldkmaabbnaaDoorTxtP
import Derived.Test.YtomkldkmaabbnaaDoorTrkT
import Derived.Deep.RegionHeld3
namespace Go.Proofs.YtomkldkmaabbnaaDoor.RtA
set_option maxRecDepth 100000
open Go.RowKit Go.Proofs.YtomkldkmaabbnaaDoor.Plain Go.Proofs.YtomkldkmaabbnaaDoor.TrkP Go.Proofs.YtomkldkmaabbnaaDoor.WalkA Go.Proofs.YtomkldkmaabbnaaDoor.TrkA Go.Proofs.YtomkldkmaabbnaaDoor.TrkB Go.Proofs.YtomkldkmaabbnaaDoor.TrkC Go.Proofs.YtomkldkmaabbnaaDoor.TrkD Go.Proofs.YtomkldkmaabbnaaDoor.TrkE Go.Proofs.YtomkldkmaabbnaaDoor.TrkS Go.Proofs.YtomkldkmaabbnaaDoor.TrkT Go.Proofs.YtomkldkmaabbnaaDoor.TxtA Go.Proofs.YtomkldkmaabbnaaDoor.TxtG Go.Proofs.YtomkldkmaabbnaaDoor.TxtN Go.Proofs.YtomkldkmaabbnaaDoor.TxtS Go.Proofs.YtomkldkmaabbnaaDoor.TxtP Go.Proofs.YtomkldkmaabbnaaDoor.TxtQ Go.Proofs.YtomkldkmaabbnaaDoor.TxtX Go.Proofs.YtomkldkmaabbnaaDoor.TxtK Go.Proofs.YtomkldkmaabbnaaDoor.TkA
open Go.Proofs.YtomkldkmaabbnaaDoor.TxtH (OwnS)
open Go.Proofs.YtomkldkmaabbnaaDoor.TxtT (Shp Shp.below l01Split_any spl_le spl_pos)


def rtRL (s : ByteArray) : List (Int × Int) := if rtB s = true then rtL s else []
def RT (s : ByteArray) (w : World) (e : Ending) (w' : World) : Prop :=
  ∃ A c, e = .returned (.tuple #[.agg #[.slice A (rtRL s).length c, .int .i64 (vI (rtB s) (rtF s)), .int .i64 (vI (rtB s) (rtU s))], .bool (rtB s)]) ∧ OwnT w' w.heap.size A (rtRL s).length (rtRL s) ∧ Below w.heap.size w w'
theorem RT.no {s : ByteArray} {w w' : World} (h : rtB s = false) (hb : Below w.heap.size w w') : RT s w (.returned (.tuple #[.agg #[.slice none 0 0, .int .i64 0, .int .i64 0], .bool false])) w' := by
  unfold RT rtRL
  rw [h]
  exact ⟨none, 0, rfl, ⟨rfl, fun h => absurd h (by simp)⟩, hb⟩
theorem RT.yes {s : ByteArray} {w w' : World} {A : Option Addr} {n c : Nat} (h : rtB s = true) (hn : n = (rtL s).length) (ho : OwnT w' w.heap.size A n (rtL s)) (hb : Below w.heap.size w w') :
    RT s w (.returned (.tuple #[.agg #[.slice A n c, .int .i64 (rtF s), .int .i64 (rtU s)], .bool true])) w' := by
  unfold RT rtRL
  rw [h]
  subst hn
  exact ⟨A, c, rfl, ho, hb⟩
open Go.Lib in
theorem piece_le (c : UInt8) : ∀ (l : List UInt8), ∀ x ∈ Lib.split l [c], x.length ≤ l.length
  | [], x, h => by
    rw [split_nil] at h
    have : x = [] := by simpa using h
    subst this
    exact Nat.le_refl _
  | b :: l, x, h => by
    have ih := piece_le c l
    rw [List.length_cons]
    by_cases hb : b = c
    · subst hb
      rw [split_eq] at h
      rcases List.mem_cons.1 h with h | h
      · subst h; simp
      · have := ih x h; omega
    · rw [split_ne l hb] at h
      cases hs : Lib.split l [c] with
      | nil => exact absurd hs (split_ne_nil c l)
      | cons y r =>
        rw [hs] at h ih
        rcases List.mem_cons.1 h with h | h
        · subst h
          have := ih y List.mem_cons_self
          rw [List.length_append, List.length_singleton]
          omega
        · have := ih x (List.mem_cons_of_mem _ h); omega
theorem part_le {s x : ByteArray} {c : UInt8} {k : Nat} (h : (spl s c)[k]? = some x) : x.size ≤ s.size := by
  have hm : dl x ∈ Lib.split (dl s) [c] := by
    rw [← spl_data]
    exact List.mem_map.2 ⟨x, List.mem_of_getElem? h, rfl⟩
  exact piece_le c (dl s) _ hm
theorem take_snoc' {xs : List ByteArray} {k : Nat} {x : ByteArray} (h : xs[k]? = some x) : xs.take (k + 1) = xs.take k ++ [x] := by
  have hk := (List.getElem?_eq_some_iff.1 h).1
  have e := (List.getElem?_eq_some_iff.1 h).2
  rw [List.take_succ_eq_append_getElem hk, e]
theorem drew_B (w : World) (m : Nat) : Below w.heap.size w (w.drewN m) := ⟨rfl, rfl, rfl, Nat.le_refl _, fun _ _ => rfl⟩

/-- What the program keeps while it reads: its results' row, the words. -/
structure KR (w : World) (P : List ByteArray) (W : World) : Prop where
  res : TrkC.RowAt W w.heap.size 24 #[.slice none 0 0, .int .i64 0, .int .i64 0]
  below : Below w.heap.size w W
  words : ∀ (k : Nat) x, P[k]? = some x → W.cell? ⟨w.heap.size + 1, k, none⟩ = some (.string x)
  lt : w.heap.size + 1 < W.heap.size
theorem KR.low {w W W' : World} {P : List ByteArray} {B : Nat} (h : KR w P W) (hb : Below B W W') (hB : w.heap.size + 2 ≤ B) : KR w P W' :=
  ⟨(hb.block _ (by omega)).trans h.res, h.below.trans (hb.mono (by omega)), fun k x hx => (hb.cell (p := ⟨w.heap.size + 1, k, none⟩) (by show w.heap.size + 1 < B; omega)).trans (h.words k x hx), Nat.lt_of_lt_of_le h.lt hb.size⟩
theorem row2 {w : World} {g : Nat} {t : TypeId} {a b : Value} (h : TrkC.RowAt w g t #[a, b]) :
    w.cell? ⟨g, 0, none⟩ = some a ∧ w.cell? ⟨g, 1, none⟩ = some b ∧ w.frozen? ⟨g, 0, none⟩ = false ∧ w.frozen? ⟨g, 1, none⟩ = false :=
  ⟨h.cell 0, h.cell 1, h.frozen 0, h.frozen 1⟩
theorem outBox {W : World} {q : Nat} {v : Value} {lf lu : Int} {acc : List (Int × Int)} (h : Out W q v lf lu acc) {s : Nat} (hs : q < s) (hv : ∀ k, v.ownBlock = some k → k ≠ s) (o : Nat) (u : Value) : Out (W.setCell ⟨s, o, none⟩ u) q v lf lu acc :=
  ⟨h.1.far (show s ≠ q by omega) u, h.2.1.kept (row := some s) ⟨rfl, rfl, rfl, by simp [World.setCell], fun k _ hne => Below.heap_setCell W ⟨s, o, none⟩ u k (fun e => hne (by rw [e]))⟩ (.inr fun e => hv s e rfl), h.2.2⟩
theorem rowB {w W' : World} {B g : Nat} {t : TypeId} {cs : Array Value} (h : TrkC.RowAt w g t cs) (hb : Below B w W') (hg : g < B) : TrkC.RowAt W' g t cs := (hb.block g hg).trans h
theorem rowSet3 {w W : World} {a0 b0 c0 : Value} (h : TrkC.RowAt W w.heap.size 24 #[a0, b0, c0]) (hb : Below w.heap.size w W) (a b c : Value) :
    TrkC.RowAt (((W.setCell ⟨w.heap.size, 0, none⟩ a).setCell ⟨w.heap.size, 1, none⟩ b).setCell ⟨w.heap.size, 2, none⟩ c) w.heap.size 24 #[a, b, c] ∧ Below w.heap.size w (((W.setCell ⟨w.heap.size, 0, none⟩ a).setCell ⟨w.heap.size, 1, none⟩ b).setCell ⟨w.heap.size, 2, none⟩ c) :=
  ⟨((h.store 0 a).store 1 b).store 2 c, ((hb.setCell (Nat.le_refl _) _).setCell (Nat.le_refl _) _).setCell (Nat.le_refl _) _⟩
theorem ownSet3 {w W : World} {B n : Nat} {A : Option Addr} {l : List (Int × Int)} (h : OwnT W B A n l) (hB : w.heap.size < B) (a b c : Value) : OwnT (((W.setCell ⟨w.heap.size, 0, none⟩ a).setCell ⟨w.heap.size, 1, none⟩ b).setCell ⟨w.heap.size, 2, none⟩ c) w.heap.size A n l :=
  OwnT.mono (OwnT.set (OwnT.set (OwnT.set h hB a) hB b) hB c) (by omega)
set_option maxHeartbeats 2000000 in
theorem implReadTrack_any (s : ByteArray) (hs : s.size ≤ 1048576) (w : World) (hsh : Shp w) (hE : Env w) : Calls Tryd.prog 5 #[.string s] w (RT s w) := by
  obtain ⟨i0, hi, hz0, hz1, hz2⟩ := info_parts info_sec
  have hlen : (spl s 32).length = Lib.countB s ⟨#[32]⟩ + 1 := spl_len s 32
  have HS : Hid (∀ W, Shp W → Calls Tryd.prog 12 #[.string s, .string ⟨#[32]⟩] W fun e w' => e = .returned (.slice (some ⟨W.heap.size, 0, none⟩) (spl s 32).length (spl s 32).length) ∧ w' = W.alloc (.cells ((spl s 32).map Value.string).toArray 9)) := fun W hW => by
    rw [hlen]
    exact Tryd.strings_Split_shaped s ⟨#[32]⟩ W hW (by omega) (Nat.le_refl 1)
  clear hlen
  have hsl := spl_le s 32
  have HB0 := Lib.hid ((Below.refl w.heap.size w).alloc (Nat.le_refl _) (.cells #[.slice none 0 0, .int .i64 0, .int .i64 0] 24))
  have HSH := Lib.hid hsh
  have HE := Lib.hid hE
  clear hsh hE
  by_cases h3 : 3 ≤ (spl s 32).length
  · obtain ⟨N, hN⟩ : ∃ N, (spl s 32).length = N + 2 := ⟨(spl s 32).length - 2, by omega⟩
    have HN := Lib.hid hN
    have HSHAPE := Lib.hid (shape3 h3)
    rw [hN] at HS hsl h3
    clear hN
    go_enter Tryd.func5, Tryd.ntmps5
    go_wp2_with fail
    refine (HS.out _ (HSH.out.below HB0.out)).mono ?_
    rintro e w1 ⟨rfl, rfl⟩
    have HX1 : Hid ((spl s 32)[1]? = some (w1 s)) := by
      show (spl s 32)[1]? = some (w1 s)
      have := congrArg (fun l : List ByteArray => l[1]?) HSHAPE.out
      exact this
    have HCUT : Hid (∀ (x : ByteArray) (c : UInt8) W, x.size ≤ 1048576 → Shp W → ∃ b, Calls Tryd.prog 13 #[.string x, .string ⟨#[c]⟩] W fun e w' => e = .returned (.tuple #[.string (cutA x c), .string (cutZ x c), .bool b]) ∧ ∃ n, w' = W.drewN n) := fun x c W hx hW => ⟨_, Tryd.strings_Cut_shaped x ⟨#[c]⟩ W hW (by omega)⟩
    have HPL := Lib.hid (fun k x (h : (spl s 32)[k]? = some x) => part_le h)
    have HZ1 : Hid ((w.alloc (.cells #[.slice none 0 0, .int .i64 0, .int .i64 0] 24)).heap.size = w.heap.size + 1) := by show _ = _; simp
    have HROW : Hid (TrkC.RowAt ((w.alloc (.cells #[.slice none 0 0, .int .i64 0, .int .i64 0] 24)).alloc (.cells ((spl s 32).map Value.string).toArray 9)) w.heap.size 24 #[.slice none 0 0, .int .i64 0, .int .i64 0]) := (TrkC.RowAt.new w 24 _).below ((Below.refl _ _).alloc (Nat.le_refl _) _) (by simp)
    have HB1 : Hid (Below w.heap.size w ((w.alloc (.cells #[.slice none 0 0, .int .i64 0, .int .i64 0] 24)).alloc (.cells ((spl s 32).map Value.string).toArray 9))) := HB0.out.alloc (by simp) _
    have HC : Hid (∀ (k : Nat) x, (spl s 32)[k]? = some x → ((w.alloc (.cells #[.slice none 0 0, .int .i64 0, .int .i64 0] 24)).alloc (.cells ((spl s 32).map Value.string).toArray 9)).cell? ⟨w.heap.size + 1, k, none⟩ = some (.string x)) := fun k x hx => by
      rw [← HZ1.out, cell_of_row _ _ k _ _ _ (heap_alloc_new (w.alloc (.cells #[.slice none 0 0, .int .i64 0, .int .i64 0] 24)) (.cells ((spl s 32).map Value.string).toArray 9))]
      simp [hx]
    have HG : Hid (w.heap.size + 1 < ((w.alloc (.cells #[.slice none 0 0, .int .i64 0, .int .i64 0] 24)).alloc (.cells ((spl s 32).map Value.string).toArray 9)).heap.size) := by show _ < _; simp
    generalize (w.alloc (.cells #[.slice none 0 0, .int .i64 0, .int .i64 0] 24)).alloc (.cells ((spl s 32).map Value.string).toArray 9) = W1 at *
    have q1 := HC.out 1 _ HX1.out
    obtain ⟨b1, hcut⟩ := HCUT.out (w1 s) 44 W1 (Nat.le_trans (HPL.out 1 _ HX1.out) hs) (HSH.out.below HB1.out)
    have HCU := Lib.hid hcut
    clear hcut
    have hx1 := Nat.le_trans (HPL.out 1 _ HX1.out) hs
    have HCL := Lib.hid (cut_len (w1 s) 44)
    go_wp2_with fail
    refine HCU.out.mono ?_
    rintro e w2 ⟨rfl, n2, rfl⟩
    clear q1
    have HA := Lib.hid (fun W (hW : Below w.heap.size w W) => implReadDecimal_any (cutA (w1 s) 44) (Nat.le_trans HCL.out.1 hx1) W (HE.out.below hW))
    have HZ := Lib.hid (fun W (hW : Below w.heap.size w W) => implReadDecimal_any (cutZ (w1 s) 44) (Nat.le_trans HCL.out.2 hx1) W (HE.out.below hW))
    unfold NumI at HA HZ
    have ef : (numP (dl (cutA (w1 s) 44))).1 = rtF s := rfl
    have eu : (numP (dl (cutZ (w1 s) 44))).1 = rtU s := rfl
    rw [ef] at HA
    rw [eu] at HZ
    have HFU := Lib.hid (And.intro ef eu)
    clear ef eu hx1
    generalize (numP (dl (cutA (w1 s) 44))).2 = ca at *
    generalize (numP (dl (cutZ (w1 s) 44))).2 = cz at *
    generalize cutA (w1 s) 44 = xa at *
    generalize cutZ (w1 s) 44 = xz at *
    have HK2 : Hid (KR w (spl s 32) ((W1.drewN n2).alloc (.cells #[.slice none 0 0, .int .i64 0, .int .i64 0] 24))) := (KR.mk HROW.out HB1.out HC.out HG.out).low (below_drew_alloc W1 n2 _) HG.out
    have HR2 : Hid (TrkC.RowAt ((W1.drewN n2).alloc (.cells #[.slice none 0 0, .int .i64 0, .int .i64 0] 24)) W1.heap.size 24 #[.slice none 0 0, .int .i64 0, .int .i64 0]) := TrkC.RowAt.new (W1.drewN n2) _ _
    have htb := HG.out
    clear HROW HB1 HC HG HX1 HCU
    go_wp2_with fail
    generalize (W1.drewN n2).alloc (.cells #[.slice none 0 0, .int .i64 0, .int .i64 0] 24) = W2 at *
    generalize W1.heap.size = tb at *
    refine (HA.out _ HK2.out.below).mono ?_
    rintro e w3 ⟨rfl, hb3⟩
    have HK3 := Lib.hid (HK2.out.low hb3 HK2.out.lt)
    have HR3 := Lib.hid (rowB HR2.out hb3 HR2.out.lt)
    clear hb3 HK2 HR2
    obtain ⟨t0, t1, t2, t3, t4, t5⟩ := HR3.out.three
    have HK4 := Lib.hid (HK3.out.low ((Below.refl tb w3).setCell (p := ⟨tb, 1, none⟩) (Nat.le_refl _) (.int .i64 (rtF s))) htb)
    have HR4 : Hid (TrkC.RowAt (w3.setCell ⟨tb, 1, none⟩ (.int .i64 (rtF s))) tb 24 #[.slice none 0 0, .int .i64 (rtF s), .int .i64 0]) := HR3.out.store 1 (.int .i64 (rtF s))
    go_wp2_with fail
    generalize w3.setCell ⟨tb, 1, none⟩ (.int .i64 (rtF s)) = W4 at *
    refine (HZ.out _ HK4.out.below).mono ?_
    rintro e w5 ⟨rfl, hb5⟩
    have HK5 := Lib.hid (HK4.out.low hb5 HK4.out.lt)
    have HR5 := Lib.hid (rowB HR4.out hb5 HR4.out.lt)
    clear hb5 HK4 HR4 t0 t1 t2 t3 t4 t5 HK3 HR3
    obtain ⟨t0, t1, t2, t3, t4, t5⟩ := HR5.out.three
    have HK6 := Lib.hid (HK5.out.low ((Below.refl tb w5).setCell (p := ⟨tb, 2, none⟩) (Nat.le_refl _) (.int .i64 (rtU s))) htb)
    have HO6 : Hid (Out (w5.setCell ⟨tb, 2, none⟩ (.int .i64 (rtU s))) tb (.slice none 0 0) (rtF s) (rtU s) []) := ⟨HR5.out.store 2 (.int .i64 (rtU s)), ⟨rfl, .inl ⟨rfl, rfl⟩⟩, fun _ => rfl⟩
    go_wp2_with fail
    generalize w5.setCell ⟨tb, 2, none⟩ (.int .i64 (rtU s)) = W6 at *
    clear HK5 HR5 t0 t1 t2 t3 t4 t5 HA HZ HFU HCL
    go_loopw [44] (fun i wr => ∃ (k : Nat) (v : Value) (acc : List (Int × Int)), k ≤ N ∧ Hid (acc.length = k) ∧ i = .int .i64 k ∧ Hid (acc = (((spl s 32).drop 2).take k).map secOfW) ∧ Hid (KR w (spl s 32) wr) ∧ Hid (Out wr tb v (rtF s) (rtU s) acc)) (fun i _ => N - (intOf i).toNat)
    case atStart => exact ⟨0, .slice none 0 0, [], Nat.zero_le _, rfl, rfl, rfl, HK6, HO6⟩
    case round =>
      obtain ⟨k, v, acc, hk, hacc, rfl, HACC, HK, HO⟩ := hrel
      by_cases hlt : k < N
      · obtain ⟨x, hx⟩ : ∃ x, (spl s 32)[2 + k]? = some x := ⟨_, List.getElem?_eq_getElem (by rw [HN.out]; omega)⟩
        have q1 := HK.out.words _ _ hx
        have HX := Lib.hid hx
        have hxs : x.size ≤ 1048576 := Nat.le_trans (HPL.out _ _ hx) hs
        obtain ⟨b1, hcut⟩ := HCUT.out x 64 wr hxs (HSH.out.below HK.out.below)
        have HCU := Lib.hid hcut
        clear hcut hx
        have HRL := Lib.hid (HK.out.res.lt)
        have hwr := HK.out.lt
        have HOW := HO.out.lt
        have hks : k ≤ 1048576 := by omega
        have HA := Lib.hid (fun W (hW : Below w.heap.size w W) => implReadDecimal_any (cutA x 64) (Nat.le_trans (cut_len x 64).1 hxs) W (HE.out.below hW))
        have HZ := Lib.hid (fun W (hW : Below w.heap.size w W) => implReadDecimal_any (cutZ x 64) (Nat.le_trans (cut_len x 64).2 hxs) W (HE.out.below hW))
        unfold NumI at HA HZ
        have HSW : Hid (secOfW x = ((numP (dl (cutA x 64))).1, (numP (dl (cutZ x 64))).1)) := rfl
        generalize (numP (dl (cutA x 64))).2 = ca at *
        generalize (numP (dl (cutZ x 64))).2 = cz at *
        generalize (numP (dl (cutA x 64))).1 = X at *
        generalize (numP (dl (cutZ x 64))).1 = Y at *
        generalize cutA x 64 = xa at *
        generalize cutZ x 64 = xz at *
        go_wp2_with fail
        refine HCU.out.mono ?_
        rintro e w7 ⟨rfl, n7, rfl⟩
        have b8 := below_drew_alloc wr n7 (.cells #[.int .i64 0, .int .i64 0] 35)
        have HK8 := Lib.hid (HK.out.low b8 hwr)
        have HO8 := Lib.hid (HO.out.below b8)
        have HR8 : Hid (TrkC.RowAt ((wr.drewN n7).alloc (.cells #[.int .i64 0, .int .i64 0] 35)) wr.heap.size 35 #[.int .i64 0, .int .i64 0]) := TrkC.RowAt.new (wr.drewN n7) _ _
        have HVN := Lib.hid (fun k (h : v.ownBlock = some k) => show k ≠ wr.heap.size from Nat.ne_of_lt (HO.out.2.1.lt k h).2)
        clear b8 q1 HCU
        go_wp2_with fail
        generalize (wr.drewN n7).alloc (.cells #[.int .i64 0, .int .i64 0] 35) = W8 at *
        refine (HA.out _ HK8.out.below).mono ?_
        rintro e w9 ⟨rfl, hb9⟩
        have HK9 := Lib.hid (HK8.out.low hb9 HK8.out.lt)
        have HO9 := Lib.hid (HO8.out.below hb9)
        have HR9 := Lib.hid (rowB HR8.out hb9 HR8.out.lt)
        obtain ⟨t0, t1, t2, t3⟩ := row2 HR9.out
        have HK10 := Lib.hid (HK9.out.low ((Below.refl wr.heap.size w9).setCell (p := ⟨wr.heap.size, 0, none⟩) (Nat.le_refl _) (.int .i64 X)) hwr)
        have HO10 := Lib.hid (outBox HO9.out (s := wr.heap.size) HOW HVN.out 0 (.int .i64 X))
        have HR10 : Hid (TrkC.RowAt (w9.setCell ⟨wr.heap.size, 0, none⟩ (.int .i64 X)) wr.heap.size 35 #[.int .i64 X, .int .i64 0]) := HR9.out.store 0 (.int .i64 X)
        clear hb9
        go_wp2_with fail
        generalize w9.setCell ⟨wr.heap.size, 0, none⟩ (.int .i64 X) = W10 at *
        refine (HZ.out _ HK10.out.below).mono ?_
        rintro e w11 ⟨rfl, hb11⟩
        have HK11 := Lib.hid (HK10.out.low hb11 HK10.out.lt)
        have HO11 := Lib.hid (HO10.out.below hb11)
        have HR11 := Lib.hid (rowB HR10.out hb11 HR10.out.lt)
        clear t0 t1 t2 t3 hb11 HK8 HK9 HK10 HO8 HO9 HO10 HR8 HR9 HR10
        obtain ⟨a0, a1, a2, a3⟩ := row2 HR11.out
        have HK12 := Lib.hid (HK11.out.low ((Below.refl wr.heap.size w11).setCell (p := ⟨wr.heap.size, 1, none⟩) (Nat.le_refl _) (.int .i64 Y)) hwr)
        have HO12 := Lib.hid (outBox HO11.out (s := wr.heap.size) HOW HVN.out 1 (.int .i64 Y))
        have HR12 : Hid (TrkC.RowAt (w11.setCell ⟨wr.heap.size, 1, none⟩ (.int .i64 Y)) wr.heap.size 35 #[.int .i64 X, .int .i64 Y]) := HR11.out.store 1 (.int .i64 Y)
        obtain ⟨c0, c1, _, _⟩ := row2 HR12.out
        obtain ⟨d0, d1, d2, _, _, _⟩ := HO12.out.1.three
        have HOWN := Lib.hid HO12.out.2.1
        have m1 : acc.length + 1 ≤ maxLen := by have := hacc.out; unfold maxLen; omega
        have m2 : (acc.length + 1) * 16 ≤ 140737488355328 := by have := hacc.out; omega
        have hsz4 : (w11.setCell ⟨wr.heap.size, 1, none⟩ (.int .i64 Y)).heap.size = w11.heap.size := by simp [World.setCell]
        have HNEW := Lib.hid (World.news_of_block (TrkC.RowAt.new (w11.setCell ⟨wr.heap.size, 1, none⟩ (.int .i64 Y)) 35 #[.int .i64 X, .int .i64 Y]))
        rw [hsz4] at HNEW
        have hsz5 : tb < w11.heap.size := HO11.out.lt
        clear hsz4
        go_wp2_with (at_builtin; refine wpList_append_lies _ rfl _ _ 22 rfl (tb + 1) 35 i0 (.agg #[.int .i64 0, .int .i64 0]) 2 16 Tryd.underlying22 hi hz0 hz1 hz2 rfl (by decide) _ acc.length (flat acc) rfl (World.ownsRow.alloc HOWN.out _) ⟨_, 0, none⟩ 1 1 [.int .i64 X, .int .i64 Y] rfl rfl HNEW.out (flat_one [(X, Y)]) (by decide) m1 m2 (by simp; omega) _ rfl ?_)
        intro gc capc w13 hown hgrow hat hltc
        obtain ⟨⟨t0, t1⟩, t2, t3⟩ := HO12.out.append (more := [(X, Y)]) (by simp) (((Below.refl _ _).alloc (Nat.le_refl _) _ : Below (w11.setCell ⟨wr.heap.size, 1, none⟩ (.int .i64 Y)).heap.size _ ((w11.setCell ⟨wr.heap.size, 1, none⟩ (.int .i64 Y)).alloc (.cells #[.int .i64 X, .int .i64 Y] 35))).mono (HO12.out.lt)) (by have := HO12.out.lt; simp; omega) HO12.out.own hgrow hown
        have HKN := Lib.hid (HK12.out.low t3 htb)
        have HON := Lib.hid t2
        obtain ⟨r0, _, _, r3, _, _⟩ := t0.three
        have HAN : Hid (acc ++ [(X, Y)] = (((spl s 32).drop 2).take (k + 1)).map secOfW) := by
          show _ = _
          rw [take_snoc' (show ((spl s 32).drop 2)[k]? = some x by rw [List.getElem?_drop]; exact HX.out), List.map_append, List.map_singleton, HSW.out, ← HACC.out]
        clear t0 t1 t2 t3 hown hgrow hat a0 a1 a2 a3 c0 c1 d0 d1 d2
        go_wp2
        go_roundw
        case rel => exact ⟨k + 1, _, acc ++ [(X, Y)], by omega, by show _ = _; rw [List.length_append, List.length_singleton, hacc.out], by go_num, HAN, HKN, HON⟩
        case measure => simp [intOf]; omega
      · have e : k = N := by omega
        subst e
        have HL : Hid (acc = rtL s) := by
          show acc = rtL s
          unfold rtL
          rw [HACC.out, List.take_of_length_le (by rw [List.length_drop, HN.out]; omega)]
        obtain ⟨Av, cv, rfl, hot⟩ := OwnT.of_row HO.out.2.1
        have HOT := Lib.hid hot
        have hl1 : acc.length ≤ 1048576 := by have := hacc.out; omega
        have HV := Lib.hid (fun W (hW : Below wr.heap.size wr W) => implValidTrack_any Av acc.length cv (rtF s) (rtU s) acc W (HOT.out.secs.below hW hW.size) hl1)
        have HT := Lib.hid (fun W (hW : Below wr.heap.size wr W) => implTrackText_any Av acc.length cv (rtF s) (rtU s) acc W (HOT.out.secs.below hW hW.size) hl1 (HE.out.tab.below (HK.out.below.trans (hW.mono HK.out.below.size))))
        obtain ⟨d0, d1, d2, _, _, _⟩ := HO.out.1.three
        obtain ⟨r0, r1, r2, r3, r4, r5⟩ := HK.out.res.three
        have htr := HO.out.lt
        clear hot
        cases hv : trackB acc (rtF s) (rtU s)
        · have HNO := Lib.hid (fun W' hb => RT.no (s := s) (w := w) (w' := W') (by unfold rtB; rw [← HL.out, hv, Bool.false_and, Bool.and_false]) hb)
          rw [hv] at HV
          go_wp2_with fail
          refine (HV.out _ (Below.refl _ _)).mono ?_
          rintro e w21 ⟨rfl, hb21⟩
          have HK21 := Lib.hid (HK.out.low hb21 HK.out.lt)
          clear hb21 r0 r1 r2 r3 r4 r5
          obtain ⟨r0, r1, r2, r3, r4, r5⟩ := HK21.out.res.three
          go_wp2_with fail
          have HS3 := rowSet3 HK21.out.res HK21.out.below (.slice none 0 0) (.int .i64 0) (.int .i64 0)
          generalize hW9 : (((w21.setCell ⟨w.heap.size, 0, none⟩ (.slice none 0 0)).setCell ⟨w.heap.size, 1, none⟩ (.int .i64 0)).setCell ⟨w.heap.size, 2, none⟩ (.int .i64 0)) = W9 at HS3 ⊢
          clear hW9
          obtain ⟨y0, y1, y2, _⟩ := HS3.1.three
          exact bodyPost_ret (v := .tuple #[.agg #[.slice none 0 0, .int .i64 0, .int .i64 0], .bool false]) (by simp [results, Tryd.results5, go_sem, y0, y1, y2]) rfl (HNO.out _ HS3.2)
        · rw [hv] at HV
          have eT : trackP acc (rtF s) (rtU s) = trackQ acc (rtF s) (rtU s) := by unfold trackP; rw [if_pos hv]
          rw [eT] at HT
          have HVV := Lib.hid hv
          clear eT hv
          by_cases hq : trackQ acc (rtF s) (rtU s) = s
          · have HYES := Lib.hid (fun W' A n c (hn : n = (rtL s).length) ho hb => RT.yes (s := s) (w := w) (w' := W') (A := A) (n := n) (c := c) (by
              have h3' : 3 ≤ (spl s 32).length := by rw [HN.out]; exact h3
              unfold rtB
              rw [← HL.out, HVV.out, decide_eq_true h3', decide_eq_true hq]
              rfl) hn ho hb)
            rw [hq] at HT
            clear hq
            go_wp2_with fail
            refine (HV.out _ (Below.refl _ _)).mono ?_
            rintro e w21 ⟨rfl, hb21⟩
            have HB21 := Lib.hid hb21
            have e0 := (hb21.cell (p := ⟨tb, 0, none⟩) htr).trans d0
            have e1 := (hb21.cell (p := ⟨tb, 1, none⟩) htr).trans d1
            have e2 := (hb21.cell (p := ⟨tb, 2, none⟩) htr).trans d2
            clear hb21
            go_wp2_with fail
            refine (HT.out _ HB21.out).mono ?_
            rintro e w22 ⟨rfl, hb22⟩
            have hb23 := HB21.out.trans (hb22.mono HB21.out.size)
            have HK22 := Lib.hid (HK.out.low hb23 HK.out.lt)
            have HOT22 := Lib.hid (HOT.out.below hb23)
            have e0 := (hb23.cell (p := ⟨tb, 0, none⟩) htr).trans d0
            have e1 := (hb23.cell (p := ⟨tb, 1, none⟩) htr).trans d1
            have e2 := (hb23.cell (p := ⟨tb, 2, none⟩) htr).trans d2
            clear hb22 hb23 r0 r1 r2 r3 r4 r5 d0 d1 d2
            obtain ⟨r0, r1, r2, r3, r4, r5⟩ := HK22.out.res.three
            go_wp2_with fail
            have HO3 := ownSet3 (w := w) HOT22.out (by omega) (.slice Av acc.length cv) (.int .i64 (rtF s)) (.int .i64 (rtU s))
            have HS3 := rowSet3 HK22.out.res HK22.out.below (.slice Av acc.length cv) (.int .i64 (rtF s)) (.int .i64 (rtU s))
            generalize hW9 : (((w22.setCell ⟨w.heap.size, 0, none⟩ (.slice Av acc.length cv)).setCell ⟨w.heap.size, 1, none⟩ (.int .i64 (rtF s))).setCell ⟨w.heap.size, 2, none⟩ (.int .i64 (rtU s))) = W9 at HS3 HO3 ⊢
            clear hW9
            obtain ⟨y0, y1, y2, _⟩ := HS3.1.three
            exact bodyPost_ret (v := .tuple #[.agg #[.slice Av acc.length cv, .int .i64 (rtF s), .int .i64 (rtU s)], .bool true]) (by simp [results, Tryd.results5, go_sem, y0, y1, y2]) rfl (HYES.out _ _ _ _ (by rw [HL.out]) (by rw [← HL.out]; exact HO3) HS3.2)
          · have HNO := Lib.hid (fun W' hb => RT.no (s := s) (w := w) (w' := W') (by unfold rtB; rw [← HL.out, decide_eq_false hq, Bool.and_false, Bool.and_false]) hb)
            have hne := list_ne hq
            clear hq
            generalize trackQ acc (rtF s) (rtU s) = T at *
            go_wp2_with fail
            refine (HV.out _ (Below.refl _ _)).mono ?_
            rintro e w21 ⟨rfl, hb21⟩
            have HB21 := Lib.hid hb21
            have e0 := (hb21.cell (p := ⟨tb, 0, none⟩) htr).trans d0
            have e1 := (hb21.cell (p := ⟨tb, 1, none⟩) htr).trans d1
            have e2 := (hb21.cell (p := ⟨tb, 2, none⟩) htr).trans d2
            clear hb21
            go_wp2_with fail
            refine (HT.out _ HB21.out).mono ?_
            rintro e w22 ⟨rfl, hb22⟩
            have hb23 := HB21.out.trans (hb22.mono HB21.out.size)
            have HK22 := Lib.hid (HK.out.low hb23 HK.out.lt)
            clear hb22 hb23 r0 r1 r2 r3 r4 r5 d0 d1 d2
            obtain ⟨r0, r1, r2, r3, r4, r5⟩ := HK22.out.res.three
            go_wp2_with fail
            have HS3 := rowSet3 HK22.out.res HK22.out.below (.slice none 0 0) (.int .i64 0) (.int .i64 0)
            generalize hW9 : (((w22.setCell ⟨w.heap.size, 0, none⟩ (.slice none 0 0)).setCell ⟨w.heap.size, 1, none⟩ (.int .i64 0)).setCell ⟨w.heap.size, 2, none⟩ (.int .i64 0)) = W9 at HS3 ⊢
            clear hW9
            obtain ⟨y0, y1, y2, _⟩ := HS3.1.three
            exact bodyPost_ret (v := .tuple #[.agg #[.slice none 0 0, .int .i64 0, .int .i64 0], .bool false]) (by simp [results, Tryd.results5, go_sem, y0, y1, y2]) rfl (HNO.out _ HS3.2)
  · have HNO := Lib.hid (fun W' hb => RT.no (s := s) (w := w) (w' := W') (by unfold rtB; rw [decide_eq_false h3]; rfl) hb)
    go_enter Tryd.func5, Tryd.ntmps5
    go_wp2_with fail
    refine (HS.out _ (HSH.out.below HB0.out)).mono ?_
    rintro e w1 ⟨rfl, rfl⟩
    have HROW : Hid (TrkC.RowAt ((w.alloc (.cells #[.slice none 0 0, .int .i64 0, .int .i64 0] 24)).alloc (.cells ((spl s 32).map Value.string).toArray 9)) w.heap.size 24 #[.slice none 0 0, .int .i64 0, .int .i64 0]) := (TrkC.RowAt.new w 24 _).below ((Below.refl _ _).alloc (Nat.le_refl _) _) (by simp)
    have HB1 : Hid (Below w.heap.size w ((w.alloc (.cells #[.slice none 0 0, .int .i64 0, .int .i64 0] 24)).alloc (.cells ((spl s 32).map Value.string).toArray 9))) := HB0.out.alloc (by simp) _
    generalize (w.alloc (.cells #[.slice none 0 0, .int .i64 0, .int .i64 0] 24)).alloc (.cells ((spl s 32).map Value.string).toArray 9) = W1 at *
    obtain ⟨t0, t1, t2, t3, t4, t5⟩ := HROW.out.three
    go_wp2_with fail
    have HS3 := rowSet3 HROW.out HB1.out (.slice none 0 0) (.int .i64 0) (.int .i64 0)
    generalize hW9 : (((W1.setCell ⟨w.heap.size, 0, none⟩ (.slice none 0 0)).setCell ⟨w.heap.size, 1, none⟩ (.int .i64 0)).setCell ⟨w.heap.size, 2, none⟩ (.int .i64 0)) = W9 at HS3 ⊢
    clear hW9
    obtain ⟨y0, y1, y2, _⟩ := HS3.1.three
    exact bodyPost_ret (v := .tuple #[.agg #[.slice none 0 0, .int .i64 0, .int .i64 0], .bool false]) (by simp [results, Tryd.results5, go_sem, y0, y1, y2]) rfl (HNO.out _ HS3.2)
end Go.Proofs.YtomkldkmaabbnaaDoor.RtA
