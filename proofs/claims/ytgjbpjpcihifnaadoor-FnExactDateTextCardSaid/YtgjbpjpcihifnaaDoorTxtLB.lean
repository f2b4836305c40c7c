/- The walks of the laws of texts. -/
import Derived.Test.YtgjbpjpcihifnaaDoorTxtA
import Derived.Test.YtgjbpjpcihifnaaDoorTxtB
import Derived.Test.YtgjbpjpcihifnaaDoorTxtC
import Derived.Test.YtgjbpjpcihifnaaDoorTxtE
import Derived.Test.YtgjbpjpcihifnaaDoorTxtF
namespace Go.Proofs.YtgjbpjpcihifnaaDoor.TxtLB
open Go.RowKit Go.Proofs.YtgjbpjpcihifnaaDoor.Plain Go.Proofs.YtgjbpjpcihifnaaDoor.TxtA Go.Proofs.YtgjbpjpcihifnaaDoor.TxtB Go.Proofs.YtgjbpjpcihifnaaDoor.TxtC Go.Proofs.YtgjbpjpcihifnaaDoor.TxtE Go.Proofs.YtgjbpjpcihifnaaDoor.TxtF

theorem fixedText_law (x : Int) (x1 : (Lit.int .i64 x).wf = true) (y : Int) (y1 : (Lit.int .i64 y).wf = true) (w : World) (ht : Tab w) :
    Calls Tryd.prog 8 #[.int .i64 x, .int .i64 y] w fun e w' => e = .returned (.bool true) ∧ Below w.heap.size w w' := by
  obtain ⟨xl, xu⟩ := wf64 x1
  obtain ⟨yl, yu⟩ := wf64 y1
  have HS := Lib.hid (fun W => specFixedText_any x xl xu y yl yu W)
  have HI := Lib.hid (fun W (hb : Below w.heap.size w W) => implFixedText_any x xl xu y yl yu W (ht.below hb))
  clear ht xl xu yl yu
  go_enter Tryd.func8, Tryd.ntmps8
  go_wp2_with fail
  refine (HS.out _).mono ?_
  rintro e w1 ⟨rfl, hb⟩
  go_wp2_with fail
  refine (HI.out _ hb).mono ?_
  rintro e w2 ⟨rfl, hb2⟩
  go_wp2_with fail
  go_ret
  exact ⟨rfl, hb.trans (hb2.mono hb.size)⟩

theorem speedText_law (x : Int) (x1 : (Lit.int .i64 x).wf = true) (w : World) (ht : Tab w) :
    Calls Tryd.prog 9 #[.int .i64 x] w fun e w' => e = .returned (.bool true) ∧ Below w.heap.size w w' := by
  obtain ⟨xl, xu⟩ := wf64 x1
  have HS := Lib.hid (fun W => specSpeedText_any x xl xu W)
  have HI := Lib.hid (fun W (hb : Below w.heap.size w W) => implSpeedText_any x xl xu W (ht.below hb))
  clear ht xl xu
  go_enter Tryd.func9, Tryd.ntmps9
  go_wp2_with fail
  refine (HS.out _).mono ?_
  rintro e w1 ⟨rfl, hb⟩
  go_wp2_with fail
  refine (HI.out _ hb).mono ?_
  rintro e w2 ⟨rfl, hb2⟩
  go_wp2_with fail
  go_ret
  exact ⟨rfl, hb.trans (hb2.mono hb.size)⟩

theorem dateText_law (x : Int) (_ : (Lit.int .i64 x).wf = true) (w : World) (ht : Tab w) :
    Calls Tryd.prog 10 #[.int .i64 x] w fun e w' => e = .returned (.bool true) ∧ Below w.heap.size w w' := by
  obtain ⟨y, m, d, hdt⟩ := date_of x
  have HS := Lib.hid (fun W => specDateText_any x y m d hdt W)
  have HI := Lib.hid (fun W (hb : Below w.heap.size w W) => implDateText_any x y m d hdt W (ht.below hb))
  clear ht hdt
  go_enter Tryd.func10, Tryd.ntmps10
  go_wp2_with fail
  refine (HS.out _).mono ?_
  rintro e w1 ⟨rfl, hb⟩
  go_wp2_with fail
  refine (HI.out _ hb).mono ?_
  rintro e w2 ⟨rfl, hb2⟩
  go_wp2_with fail
  go_ret
  exact ⟨rfl, hb.trans (hb2.mono hb.size)⟩

end Go.Proofs.YtgjbpjpcihifnaaDoor.TxtLB
