/-
  The law of words as figures: its formula, over stand-ins for what is handed back.
-/
import Derived.Test.YtpmcflidggofkaaEAw
namespace Go.Proofs.Ytpmcflidggofkaa
open Go Go.RowKit
def e_H1 (h1 : Int → ByteArray) (c1 : Int → Bool) : Spec := fun _ args => match args with
  | [.val (.int .u64 w_)] => some (.val (.string (h1 w_)), none, [c1 w_])
  | _ => none
def e_H2 (h2 : Int → ByteArray) : Spec := fun _ args => match args with
  | [.val (.int .u64 w)] => some (vs (h2 w), none, [])
  | _ => none
def L_eb (h1 : Int → ByteArray) (c1 : Int → Bool) (h2 : Int → ByteArray) : List (FuncId × Spec) := (12, e_H1 h1 c1) :: (15, e_H2 h2) :: L_haymowlaw03_awake
theorem hE_eb : ESound Try.prog (envOf (L_eb digits_Hex_0 c_digits_Hex (fun w => hxF 16 w ⟨#[]⟩))) := env_cons ok_digits_Hex (env_cons ok_hx hE_haymowlaw03_awake)

theorem dw_run (h1 : Int → ByteArray) (c1 : Int → Bool) (h2 : Int → ByteArray) (w : Int) (s : ByteArray) : F_ Try.prog (L_eb h1 c1 h2) Try.f4 [] [] 99 [vu w, vs s] noMem =
    some (Fin_.ret (vb (bif bif bif bif bif (h1 w).toList == (h2 w).toList then rhV0 (h1 w) == w else false then rhV1 (h1 w) == 0 else false then rhV0 s == rrV0 s else false then (rhV1 s == 0) == rrV1 s else false then bif rrV1 s then true else rhV1 s == 5 else false)) ⟨[], 99⟩ (bif c1 w then true else false)) := by kernel_rfl
end Go.Proofs.Ytpmcflidggofkaa
