/- The walks of numbers read from texts: the reference's l01Number and the program's ReadDecimal. -/
import Derived.Test.YtlknncmnphbpkaaGreatDoorTxtG
import Derived.Test.YtlknncmnphbpkaaGreatDoorShelf
import Derived.Test.YtlknncmnphbpkaaGreatDoorTxtS
import Derived.Test.YtlknncmnphbpkaaGreatDoorTxtN
import Derived.Test.YtlknncmnphbpkaaGreatDoorWalkH
namespace Go.Proofs.YtlknncmnphbpkaaGreatDoor.TxtP
open Go.RowKit Go.Proofs.YtlknncmnphbpkaaGreatDoor.Plain Go.Proofs.YtlknncmnphbpkaaGreatDoor.TxtA Go.Proofs.YtlknncmnphbpkaaGreatDoor.TxtB Go.Proofs.YtlknncmnphbpkaaGreatDoor.TxtN Go.Proofs.YtlknncmnphbpkaaGreatDoor.TxtS Go.Proofs.YtlknncmnphbpkaaGreatDoor.WalkA Go.Proofs.YtlknncmnphbpkaaGreatDoor.WalkC Go.Proofs.YtlknncmnphbpkaaGreatDoor.WalkH

def piece (s : ByteArray) (a k : Nat) : List UInt8 := ((dl s).drop a).take (k - a)
theorem piece_next {s : ByteArray} {a k : Nat} (ha : a ≤ k) (hk : k < s.size) : piece s a (k + 1) = piece s a k ++ [s[k]] := by
  unfold piece
  have hk' : k < (dl s).length := hk
  have e2 : k + 1 - a = (k - a) + 1 := by omega
  have hl : k - a < ((dl s).drop a).length := by rw [List.length_drop]; omega
  rw [e2, List.take_succ_eq_append_getElem hl]
  congr 2
  rw [List.getElem_drop]
  have e3 : a + (k - a) = k := by omega
  simp only [e3]
  rfl
theorem piece_full (s : ByteArray) (a : Nat) : piece s a s.size = (dl s).drop a := by
  unfold piece
  exact List.take_of_length_le (by rw [List.length_drop]; exact Nat.le_refl _)
theorem piece_len (s : ByteArray) (a k : Nat) : (piece s a k).length ≤ k - a := List.length_take_le _ _
theorem piece_none (s : ByteArray) (a : Nat) : piece s a a = [] := by unfold piece; rw [Nat.sub_self, List.take_zero]
theorem dg_piece {s : ByteArray} {a k : Nat} (h : dg (piece s a k) = false) : dg ((dl s).drop a) = false := by
  cases hd : dg ((dl s).drop a)
  · rfl
  · exfalso
    unfold dg at h hd
    rw [List.all_eq_true] at hd
    rw [List.all_eq_false] at h
    obtain ⟨x, hx, hn⟩ := h
    exact hn (hd x (List.mem_of_mem_take hx))
theorem num_none {r : List UInt8} (h : canon r = false) (hc : ∀ x t, r = x :: t → x ≠ 45) : numP r = (0, false) := by
  cases r with
  | nil => rfl
  | cons x t => rw [numP_plain t (hc x t rfl), h]; rfl
theorem num_some {r : List UInt8} (h : canon r = true) (hc : ∀ x t, r = x :: t → x ≠ 45) : numP r = (((val r : Nat) : Int), true) := by
  cases r with
  | nil => revert h; decide
  | cons x t => rw [numP_plain t (hc x t rfl), h]; rfl
theorem num_mnone {r : List UInt8} (h : canon r = false ∨ lead r = false) : numP (45 :: r) = (0, false) := by
  rw [numP_minus, if_neg]
  rw [Bool.and_eq_true]
  rintro ⟨a, b⟩
  rcases h with h | h
  · rw [h] at a; cases a
  · rw [h] at b; cases b
theorem num_msome {r : List UInt8} (h : canon r = true) (h2 : lead r = true) : numP (45 :: r) = (-((val r : Nat) : Int), true) := by
  rw [numP_minus, h, h2]; rfl
theorem canon_long {r : List UInt8} (h : 18 < r.length) : canon r = false := by
  have : ¬ r.length ≤ 18 := by omega
  simp [canon, this]
theorem canon_dg {r : List UInt8} (h : dg r = false) : canon r = false := by simp [canon, h]
theorem canon_zero {r : List UInt8} (h : lead r = false) (h1 : r.length ≠ 1) : canon r = false := by simp [canon, h, h1]
theorem canon_yes {r : List UInt8} (h : r.length ≤ 18) (h2 : dg r = true) (h3 : lead r = true ∨ r.length = 1) : canon r = true := canon_iff.2 ⟨h, h2, h3⟩
theorem lead_at (s : ByteArray) (a : Nat) (h : a < s.size) : lead ((dl s).drop a) = decide (s[a] ≠ 48) := by
  have h' : a < (dl s).length := h
  rw [List.drop_eq_getElem_cons h']
  rfl
theorem dl_cons (s : ByteArray) (h : 0 < s.size) : dl s = s[0] :: (dl s).drop 1 := by
  have h' : 0 < (dl s).length := h
  have := List.drop_eq_getElem_cons h'
  rw [List.drop_zero] at this
  exact this
theorem drop_len (s : ByteArray) (a : Nat) : ((dl s).drop a).length = s.size - a := by rw [List.length_drop]; rfl
theorem u8_ne {x : UInt8} {n : Nat} (hn : n < 256) (h : x ≠ UInt8.ofNat n) : ((x.toNat : Int) == (n : Int)) = false := by
  rw [beq_eq_false_iff_ne]
  intro e
  apply h
  apply UInt8.toNat_inj.1
  rw [UInt8.toNat_ofNat', Nat.mod_eq_of_lt hn]
  omega
theorem ret_num {s : ByteArray} {p : Int × Bool} (h : numP (dl s) = p) : Ending.returned (.tuple #[.int .i64 p.1, .bool p.2]) = .returned (.tuple #[.int .i64 (numP (dl s)).1, .bool (numP (dl s)).2]) := by rw [h]
theorem isD_in (c : UInt8) : inB (c.toNat : Int) 48 57 = isD c := by
  unfold inB isD
  congr 1 <;> exact decide_eq_decide.2 (by omega)
def NumS (s : ByteArray) (w : World) (e : Ending) (w' : World) : Prop := e = .returned (.tuple #[.int .i64 (numP (dl s)).1, .bool (numP (dl s)).2]) ∧ w = w'

/-- What a call that reads numbers wants of memory: the table of powers, and the two errors laid. -/
structure Env (W : World) : Prop where
  tab : Tab W
  syn : ∃ tp p, W.var? Tryz.prog "strconv.ErrSyntax" = some #[.iface tp p]
  rng : ∃ tp p, W.var? Tryz.prog "strconv.ErrRange" = some #[.iface tp p]
theorem var_below {W W' : World} {n : String} {cs : Array Value} (h : W.var? Tryz.prog n = some cs) (hb : Below W.heap.size W W') : W'.var? Tryz.prog n = some cs := by
  unfold World.var? at h ⊢
  cases hg : Tryz.prog.globalNamed n with
  | none => simp [hg] at h
  | some g =>
    simp only [hg, Option.bind_some] at h ⊢
    have hlt : g < W.heap.size := by
      rcases Nat.lt_or_ge g W.heap.size with h' | h'
      · exact h'
      · simp [Array.getElem?_eq_none h'] at h
    rw [hb.block g hlt]
    exact h
theorem Env.below {W W' : World} (h : Env W) (hb : Below W.heap.size W W') : Env W' := by
  obtain ⟨t, ⟨a, b, s⟩, ⟨c, d, r⟩⟩ := h
  exact ⟨t.below hb, ⟨a, b, var_below s hb⟩, ⟨c, d, var_below r hb⟩⟩
theorem parse_bound {l : List UInt8} {n : Int} (h : Lib.parseIntB 64 l = .ok n) : -9223372036854775808 ≤ n ∧ n ≤ 9223372036854775807 := by
  cases l with
  | nil => cases h
  | cons c r =>
    unfold Lib.parseIntB at h
    simp only at h
    split at h
    · cases h
    · cases h
    · split at h
      · cases h
      · split at h
        · cases h
        · injection h with h
          subst h
          split <;> omega
theorem list_ne {a b : ByteArray} (h : a ≠ b) : (a.toList == b.toList) = false := by
  rw [beq_eq_false_iff_ne, ByteArray.toList_eq, ByteArray.toList_eq]
  exact fun e => h (dl_inj e)
def trimD (s : ByteArray) : ByteArray := ⟨(Lib.trimPrefix s.data.toList [45]).toArray⟩
theorem trimD_size (s : ByteArray) : (trimD s).size = (Lib.trimPrefix (dl s) [45]).length := by show (List.toArray _).size = _; simp [dl]
theorem trimD_ge (s : ByteArray) : s.size ≤ (trimD s).size + 1 := by
  rw [trimD_size]
  unfold Lib.trimPrefix
  have e : (dl s).length = s.size := rfl
  split
  · rw [List.length_drop]; simp; omega
  · omega
def NumI (s : ByteArray) (w : World) (e : Ending) (w' : World) : Prop := e = .returned (.tuple #[.int .i64 (numP (dl s)).1, .bool (numP (dl s)).2]) ∧ Below w.heap.size w w'
theorem bytes_below {w w' : World} {e : TypeId} (h : w' = w ∨ ∃ t, w' = Lib.bytesWorld w e t) : Below w.heap.size w w' := by
  rcases h with rfl | ⟨t, rfl⟩
  · exact Below.refl _ _
  · exact below_bytes w e t
set_option maxRecDepth 100000 in
theorem implReadDecimal_any (s : ByteArray) (hs : s.size ≤ 1048576) (w : World) (hE : Env w) : Calls Tryz.prog 77 #[.string s] w (NumI s w) := by
  unfold NumI
  have HT : Hid (∀ W, Calls Tryz.prog 86 #[.string s, .string ⟨#[45]⟩] W fun e w' => e = .returned (.string (trimD s)) ∧ w' = W) := fun W => Tryz.strings_TrimPrefix s ⟨#[45]⟩ W
  have hts := trimD_size s
  have htg := trimD_ge s
  have b : Below w.heap.size w w := Below.refl _ _
  by_cases hl : 1 ≤ (Lib.trimPrefix (dl s) [45]).length ∧ (Lib.trimPrefix (dl s) [45]).length ≤ 18
  · have h18 := hl.2
    rw [← hts] at hl
    obtain ⟨hl1, hl2⟩ := hl
    cases hp : Lib.parseIntB 64 (dl s)
    · rename_i n
      obtain ⟨n1, n2⟩ := parse_bound hp
      have HP : Hid (∀ W, Calls Tryz.prog 87 #[.string s, .int .i64 10, .int .i64 64] W fun e w' => e = .returned (.tuple #[.int .i64 n, .nilIface]) ∧ (w' = W ∨ ∃ t, w' = Lib.bytesWorld W 5 t)) := fun W => Tryz.strconv_ParseInt_10_at64_ok s (by omega) n hp W
      have HD := Lib.hid (fun W (hb : Below w.heap.size w W) => implDecimal_any n n1 n2 W (hE.tab.below hb))
      by_cases hd : dec n = s
      · have HN : Hid (numP (dl s) = (n, true)) := read_same (by rw [← hd]; rfl) h18
        have HDD := Lib.hid hd
        clear hp hd hts htg hE h18 hs
        generalize trimD s = T at *
        rw [HDD.out] at HD
        go_enter Tryz.func77, Tryz.ntmps77
        go_wp2_with fail
        refine (HT.out _).mono ?_
        rintro e w1 ⟨rfl, rfl⟩
        go_wp2_with fail
        refine (HP.out _).mono ?_
        rintro e w1 ⟨rfl, hbw⟩
        have b1 := bytes_below hbw
        clear hbw
        go_wp2_with fail
        refine (HD.out _ b1).mono ?_
        rintro e w2 ⟨rfl, hb2⟩
        have b2 := b1.trans (hb2.mono b1.size)
        clear hb2
        go_wp2_with fail
        go_ret2
        exact ⟨ret_num (p := (n, true)) HN.out, b2⟩
      · have HN : Hid (numP (dl s) = (0, false)) := read_other hp (fun e => hd (dl_inj e))
        clear hp hts htg hE h18 hs
        have hne := list_ne hd
        generalize trimD s = T at *
        generalize dec n = d at *
        clear hd
        go_enter Tryz.func77, Tryz.ntmps77
        go_wp2_with fail
        refine (HT.out _).mono ?_
        rintro e w1 ⟨rfl, rfl⟩
        go_wp2_with fail
        refine (HP.out _).mono ?_
        rintro e w1 ⟨rfl, hbw⟩
        have b1 := bytes_below hbw
        clear hbw
        go_wp2_with fail
        refine (HD.out _ b1).mono ?_
        rintro e w2 ⟨rfl, hb2⟩
        have b2 := b1.trans (hb2.mono b1.size)
        clear hb2
        go_wp2_with fail
        go_ret2
        exact ⟨ret_num (p := (0, false)) HN.out, b2⟩
    · have HN : Hid (numP (dl s) = (0, false)) := read_fail (fun n e => by rw [hp] at e; cases e)
      obtain ⟨_, ⟨tp, p, hv⟩, _⟩ := hE
      have HP : Hid (Calls Tryz.prog 87 #[.string s, .int .i64 10, .int .i64 64] w fun e w' => ∃ tp p, e = .returned (.tuple #[.int .i64 0, .iface tp p]) ∧ Below w.heap.size w w') := (Any.strconv_ParseInt_10_at64_syntax_var Tryz.laysC174 s (by omega) hp tp p w hv).mono fun e w' ⟨N, h1, _, _, h2⟩ => ⟨_, _, h1, h2⟩
      clear hp hts htg hv h18 hs
      generalize trimD s = T at *
      go_enter Tryz.func77, Tryz.ntmps77
      go_wp2_with fail
      refine (HT.out _).mono ?_
      rintro e w1 ⟨rfl, rfl⟩
      go_wp2_with fail
      refine HP.out.mono ?_
      rintro e w1 ⟨tp', p', rfl, b1⟩
      go_wp2_with fail
      go_ret2
      exact ⟨ret_num (p := (0, false)) HN.out, b1⟩
    · have HN : Hid (numP (dl s) = (0, false)) := read_fail (fun n e => by rw [hp] at e; cases e)
      obtain ⟨_, _, ⟨tp, p, hv⟩⟩ := hE
      have HP : Hid (Calls Tryz.prog 87 #[.string s, .int .i64 10, .int .i64 64] w fun e w' => ∃ n tp p, e = .returned (.tuple #[.int .i64 n, .iface tp p]) ∧ Below w.heap.size w w') := (Tryz.strconv_ParseInt_10_at64_range_var s (by omega) hp tp p w hv).mono fun e w' ⟨N, h1, _, _, h2⟩ => ⟨_, _, _, h1, h2⟩
      clear hp hts htg hv h18 hs
      generalize trimD s = T at *
      go_enter Tryz.func77, Tryz.ntmps77
      go_wp2_with fail
      refine (HT.out _).mono ?_
      rintro e w1 ⟨rfl, rfl⟩
      go_wp2_with fail
      refine HP.out.mono ?_
      rintro e w1 ⟨n', tp', p', rfl, b1⟩
      go_wp2_with fail
      go_ret2
      exact ⟨ret_num (p := (0, false)) HN.out, b1⟩
  · have HN : Hid (numP (dl s) = (0, false)) := read_long hl
    rw [← hts] at hl
    clear hts hE
    generalize trimD s = T at *
    by_cases h1 : 1 ≤ T.size
    · have h2 : 18 < T.size := by omega
      clear hl
      go_enter Tryz.func77, Tryz.ntmps77
      go_wp2_with fail
      refine (HT.out _).mono ?_
      rintro e w1 ⟨rfl, rfl⟩
      go_wp2_with fail
      go_ret2
      exact ⟨ret_num (p := (0, false)) HN.out, b⟩
    · have h2 : T.size = 0 := by omega
      clear hl
      go_enter Tryz.func77, Tryz.ntmps77
      go_wp2_with fail
      refine (HT.out _).mono ?_
      rintro e w1 ⟨rfl, rfl⟩
      go_wp2_with fail
      go_ret2
      exact ⟨ret_num (p := (0, false)) HN.out, b⟩

end Go.Proofs.YtlknncmnphbpkaaGreatDoor.TxtP
