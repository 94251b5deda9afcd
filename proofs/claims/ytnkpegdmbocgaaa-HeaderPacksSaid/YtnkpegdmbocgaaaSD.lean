/-
  Shapes and classes together.
-/
import Derived.Test.YtnkpegdmbocgaaaSC
namespace Go.Proofs.Ytnkpegdmbocgaaa
open Go Go.RowKit
def L_both : List (FuncId × Spec) := L_sum ++ L_class_Bounds
theorem hE_both : ESound Try.prog (envOf L_both) := env_app hE_sum hE_class_Bounds
end Go.Proofs.Ytnkpegdmbocgaaa
