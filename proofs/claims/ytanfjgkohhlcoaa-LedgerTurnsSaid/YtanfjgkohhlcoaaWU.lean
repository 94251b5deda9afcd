/-
  What functions hand back, reckoned from their text.
-/
import Derived.Test.YtanfjgkohhlcoaaProg
import Derived.Test.YtanfjgkohhlcoaaWT
namespace Go.Proofs.Ytanfjgkohhlcoaa
open Go Go.RowKit
def s_haymowlaw01_awake : AV := AV.val (Value.bool true)
theorem t_haymowlaw01_awake : F_ Try.prog L_aw Try.f15 [] [] 99 [] noMem = some (.ret (s_haymowlaw01_awake) { bl := [], nx := 99 } true) := by kernel_rfl
def e_haymowlaw01_awake : Spec := fun _ args => match args with
  | [] => some (s_haymowlaw01_awake , none, [])
  | _ => none
theorem ok_haymowlaw01_awake : SpecOk Try.prog 15 e_haymowlaw01_awake := fun m args v mo bs h hb => by
  unfold e_haymowlaw01_awake at h
  split at h
  · cases h
    exact pure_fn (c := bodyOf Try.f15) hE_aw mixed (fun xs w => Try.call15 xs w) Try.func15 rfl (t_haymowlaw01_awake) rfl rfl
  · cases h
def L_haymowlaw01_awake : List (FuncId × Spec) := (15, e_haymowlaw01_awake) :: L_aw
theorem hE_haymowlaw01_awake : ESound Try.prog (envOf L_haymowlaw01_awake) := env_cons ok_haymowlaw01_awake hE_aw
theorem r_haymowlaw01_WideSums (a_0 : Int) (a_1 : Int) (b_0 : Int) (b_1 : Int) : F_ Try.prog L_haymowlaw01_awake Try.f6 [] [] 99 [AV.agg [AV.val (Value.int IntKind.u64 a_0), AV.val (Value.int IntKind.u64 a_1)], AV.agg [AV.val (Value.int IntKind.u64 b_0), AV.val (Value.int IntKind.u64 b_1)]] noMem = some (Fin_.ret (AV.val (Value.bool (bif bif bif bif bif bif wide_Add_0 a_0 a_1 b_0 b_1 == haymowref01_Add_0 a_0 a_1 b_0 b_1 && (wide_Add_1 a_0 a_1 b_0 b_1 == haymowref01_Add_1 a_0 a_1 b_0 b_1 && true) then wide_Add_2 a_0 a_1 b_0 b_1 == haymowref01_Add_2 a_0 a_1 b_0 b_1 else false then wide_Sub_0 a_0 a_1 b_0 b_1 == haymowref01_Sub_0 a_0 a_1 b_0 b_1 && (wide_Sub_1 a_0 a_1 b_0 b_1 == haymowref01_Sub_1 a_0 a_1 b_0 b_1 && true) else false then wide_Sub_2 a_0 a_1 b_0 b_1 == haymowref01_Sub_2 a_0 a_1 b_0 b_1 else false then wide_Cmp_0 a_0 a_1 b_0 b_1 == haymowref01_Cmp_0 a_0 a_1 b_0 b_1 else false then wide_Less_0 a_0 a_1 b_0 b_1 == decide (haymowref01_Cmp_0 a_0 a_1 b_0 b_1 < 0) else false then true else false))) { bl := [], nx := 99 } (bif c_wide_Add a_0 a_1 b_0 b_1 then bif c_wide_Sub a_0 a_1 b_0 b_1 then true else false else false)) := by kernel_rfl
end Go.Proofs.Ytanfjgkohhlcoaa
