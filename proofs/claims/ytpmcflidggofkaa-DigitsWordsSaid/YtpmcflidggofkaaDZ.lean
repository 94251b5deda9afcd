/-
  All contracts of digits together.
-/
import Derived.Test.YtpmcflidggofkaaDY
import Derived.Test.YtpmcflidggofkaaDT
namespace Go.Proofs.Ytpmcflidggofkaa
open Go Go.RowKit
def L_dz : List (FuncId × Spec) := L_hx ++ (9, e_read) :: (10, e_rfr) :: L_strings_TrimPrefix
theorem hE_dz : ESound Try.prog (envOf L_dz) := env_app hE_hx (env_cons ok_read (env_cons ok_rfr hE_strings_TrimPrefix))
end Go.Proofs.Ytpmcflidggofkaa
