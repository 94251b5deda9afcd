/-
  Headers and lengths of numbers together.
-/
import Derived.Test.YtnkpegdmbocgaaaSA
import Derived.Test.YtnkpegdmbocgaaaLen
namespace Go.Proofs.Ytnkpegdmbocgaaa
open Go Go.RowKit
def L_fz : List (FuncId × Spec) := L_header_Words ++ L_len
theorem hE_fz : ESound Try.prog (envOf L_fz) := env_app hE_header_Words hE_len
end Go.Proofs.Ytnkpegdmbocgaaa
