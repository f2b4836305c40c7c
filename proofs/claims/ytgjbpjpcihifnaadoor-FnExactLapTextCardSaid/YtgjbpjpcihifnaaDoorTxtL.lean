/- The walks of the laws of texts. -/
import Derived.Test.YtgjbpjpcihifnaaDoorTxtA
import Derived.Test.YtgjbpjpcihifnaaDoorTxtB
import Derived.Test.YtgjbpjpcihifnaaDoorTxtC
namespace Go.Proofs.YtgjbpjpcihifnaaDoor.TxtL
open Go.RowKit Go.Proofs.YtgjbpjpcihifnaaDoor.Plain Go.Proofs.YtgjbpjpcihifnaaDoor.TxtA Go.Proofs.YtgjbpjpcihifnaaDoor.TxtB Go.Proofs.YtgjbpjpcihifnaaDoor.TxtC

theorem decimal_law (x : Int) (x1 : (Lit.int .i64 x).wf = true) (w : World) (ht : Tab w) :
    Calls Tryd.prog 3 #[.int .i64 x] w fun e w' => e = .returned (.bool true) ∧ Below w.heap.size w w' := by
  obtain ⟨xl, xu⟩ := wf64 x1
  have HS := Lib.hid (fun W => specDecimal_any x xl xu W)
  have HI := Lib.hid (fun W (hb : Below w.heap.size w W) => implDecimal_any x xl xu W (ht.below hb))
  clear ht xl xu
  go_enter Tryd.func3, Tryd.ntmps3
  go_wp2_with fail
  refine (HS.out _).mono ?_
  rintro e w1 ⟨rfl, hb⟩
  go_wp2_with fail
  refine (HI.out _ hb).mono ?_
  rintro e w2 ⟨rfl, hb2⟩
  go_wp2_with fail
  go_ret
  exact ⟨rfl, hb.trans (hb2.mono hb.size)⟩

theorem clockText_law (x : Int) (x1 : (Lit.int .i64 x).wf = true) (w : World) (ht : Tab w) :
    Calls Tryd.prog 6 #[.int .i64 x] w fun e w' => e = .returned (.bool true) ∧ Below w.heap.size w w' := by
  obtain ⟨xl, xu⟩ := wf64 x1
  have HS := Lib.hid (fun W => specClockText_any x xl xu W)
  have HI := Lib.hid (fun W (hb : Below w.heap.size w W) => implClockText_any x xl xu W (ht.below hb))
  clear ht xl xu
  go_enter Tryd.func6, Tryd.ntmps6
  go_wp2_with fail
  refine (HS.out _).mono ?_
  rintro e w1 ⟨rfl, hb⟩
  go_wp2_with fail
  refine (HI.out _ hb).mono ?_
  rintro e w2 ⟨rfl, hb2⟩
  go_wp2_with fail
  go_ret
  exact ⟨rfl, hb.trans (hb2.mono hb.size)⟩

theorem lapText_law (x : Int) (x1 : (Lit.int .i64 x).wf = true) (w : World) (ht : Tab w) :
    Calls Tryd.prog 7 #[.int .i64 x] w fun e w' => e = .returned (.bool true) ∧ Below w.heap.size w w' := by
  obtain ⟨xl, xu⟩ := wf64 x1
  have HS := Lib.hid (fun W => specLapText_any x xl xu W)
  have HI := Lib.hid (fun W (hb : Below w.heap.size w W) => implLapText_any x xl xu W (ht.below hb))
  clear ht xl xu
  go_enter Tryd.func7, Tryd.ntmps7
  go_wp2_with fail
  refine (HS.out _).mono ?_
  rintro e w1 ⟨rfl, hb⟩
  go_wp2_with fail
  refine (HI.out _ hb).mono ?_
  rintro e w2 ⟨rfl, hb2⟩
  go_wp2_with fail
  go_ret
  exact ⟨rfl, hb.trans (hb2.mono hb.size)⟩

end Go.Proofs.YtgjbpjpcihifnaaDoor.TxtL
