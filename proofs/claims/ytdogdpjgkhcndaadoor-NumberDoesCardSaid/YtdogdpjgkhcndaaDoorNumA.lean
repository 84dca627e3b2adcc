/-
  LAYER 2: the results of operators are the document's: the statement's walk.
-/
import Derived.Test.YtdogdpjgkhcndaaDoorNum5
namespace Go.Proofs.YtdogdpjgkhcndaaDoor
open Go.ChangeShapes Go.WideShapes Go.ChangeAt Go.RowKit

set_option maxHeartbeats 1000000 in
theorem numberDoes_walk (op : Int) (_ : -9223372036854775808 ≤ op) (_ : op ≤ 9223372036854775807) (a : Int) (a0 : -9223372036854775808 ≤ a) (a1 : a ≤ 9223372036854775807) (b : Int) (b0 : -9223372036854775808 ≤ b) (b1 : b ≤ 9223372036854775807) (w : World) (hG : Good w) :
    Calls Tryd.prog 3 #[.int .i64 op, .int .i64 a, .int .i64 b] w fun e w' => e = .returned (.bool true) ∧ Below w.heap.size w w' := by
  have HI : Hid (FInv w w) := Lib.hid ⟨hG, Below.refl _ _⟩
  clear hG
  have h1 := fun W => do_any op a b a0 a1 b0 b1 W
  have h2 := fun W => rdo_any op a b a0 a1 b0 b1 W
  have h3 := fun W => compare_any op a b W
  have h4 := fun W => rcompare_any op a b W
  have h5 := fun W => neg_any a W
  have h6 := fun W => rneg_any a W
  generalize doN op a b = X at h1 h2
  generalize doT op b = T at h1 h2
  generalize doE op = E at h1 h2
  generalize cmpB op a b = C at h3 h4
  generalize cmpE op = F at h3 h4
  generalize wrap64 (-a) = M at h5 h6
  have H1 := Lib.hid h1
  have H2 := Lib.hid h2
  have H3 := Lib.hid h3
  have H4 := Lib.hid h4
  have H5 := Lib.hid h5
  have H6 := Lib.hid h6
  clear h1 h2 h3 h4 h5 h6
  go_enter Tryd.func3, Tryd.ntmps3
  go_wp2_with fail
  refine (H1.out _).mono ?_
  rintro e w1 ⟨rfl, rfl⟩
  go_wp2_with fail
  refine (H2.out _).mono ?_
  rintro e w1 ⟨rfl, rfl⟩
  go_wp2_with fail
  refine (H3.out _ (FInv.good HI)).mono ?_
  rintro e w1 ⟨rfl, rfl⟩
  go_wp2_with fail
  refine (H4.out _).mono ?_
  rintro e w1 ⟨rfl, rfl⟩
  go_wp2_with fail
  refine (H5.out _).mono ?_
  rintro e w1 ⟨rfl, rfl⟩
  go_wp2_with fail
  refine (H6.out _).mono ?_
  rintro e w1 ⟨rfl, rfl⟩
  go_wp2_with fail
  refine (works_any _ (FInv.good HI)).mono ?_
  rintro e w1 ⟨rfl, b⟩
  have HI := FInv.call HI b
  clear b
  go_wp2_with fail
  go_ret
  exact ⟨rfl, HI.out.2⟩
end Go.Proofs.YtdogdpjgkhcndaaDoor
