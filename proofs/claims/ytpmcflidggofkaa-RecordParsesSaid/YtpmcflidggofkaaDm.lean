/-
  Numbers in digits: what the others stand on.
-/
import Derived.Test.YtpmcflidggofkaaDec
namespace Go.Proofs.Ytpmcflidggofkaa
open Go Go.RowKit
theorem mixed : MixedOk Try.prog := mixedD
end Go.Proofs.Ytpmcflidggofkaa
