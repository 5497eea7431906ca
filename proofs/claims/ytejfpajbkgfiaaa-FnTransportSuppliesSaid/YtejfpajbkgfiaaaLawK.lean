/-
  What the laws' walks share.
-/
import Derived.Test.YtejfpajbkgfiaaaLawPlain
import Derived.Test.YtejfpajbkgfiaaaLike
set_option linter.unusedSimpArgs false
set_option linter.unusedVariables false
namespace Go.Proofs.Ytejfpajbkgfiaaa
open Go.ChangeShapes Go.WideShapes Go.ChangeAt Go.RowKit

theorem likeInts_same {A B : Option Addr} {n c m d : Nat} (a : List Int) (w : World) (hA : SlAt w 1 A n c (ints a)) (hB : SlAt w 1 B m d (ints a)) :
    Calls Try.prog 22 #[.slice A n c, .slice B m d] w fun e w' => e = .returned (.bool true) ∧ Gr w w' := by
  refine (likeInts_any a a w hA hB).mono ?_
  rintro e w' ⟨rfl, h⟩
  exact ⟨ret_bool (by simp), h⟩
end Go.Proofs.Ytejfpajbkgfiaaa
