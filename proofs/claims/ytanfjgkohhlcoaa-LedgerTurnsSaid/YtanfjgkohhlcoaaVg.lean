/-
  The contracts of the numbers of 128 bits, said in whole numbers.
-/
import Derived.Test.YtanfjgkohhlcoaaVf
import Derived.Test.YtanfjgkohhlcoaaWU
namespace Go.Proofs.Ytanfjgkohhlcoaa
open Go Go.RowKit
def e_wadd : Spec := fun _ args => match args with
  | [.agg [.val (.int .u64 a), .val (.int .u64 b)], .agg [.val (.int .u64 c), .val (.int .u64 d)]] => some (.tup [.agg [vu (satH (wv a b + wv c d)), vu (satL (wv a b + wv c d))], vb (satF (wv a b + wv c d))], none, [inU a, inU b, inU c, inU d])
  | _ => none
theorem ok_wadd : SpecOk Try.prog 26 e_wadd := fun m args v mo bs h hb => by
  unfold e_wadd at h
  split at h
  · rename_i a b c d
    cases h
    simp at hb
    have e := wadd (isU_of hb.1) (isU_of hb.2.1) (isU_of hb.2.2.1) (isU_of hb.2.2.2)
    rw [← e.1, ← e.2.1, ← e.2.2.1]
    exact ok_wide_Add m [.agg [vu a, vu b], .agg [vu c, vu d]] (s_wide_Add a b c d) none [c_wide_Add a b c d] rfl (by simp [e.2.2.2])
  · cases h
def e_radd : Spec := fun _ args => match args with
  | [.agg [.val (.int .u64 a), .val (.int .u64 b)], .agg [.val (.int .u64 c), .val (.int .u64 d)]] => some (.tup [.agg [vu (satH (wv a b + wv c d)), vu (satL (wv a b + wv c d))], vb (satF (wv a b + wv c d))], none, [inU a, inU b, inU c, inU d])
  | _ => none
theorem ok_radd : SpecOk Try.prog 20 e_radd := fun m args v mo bs h hb => by
  unfold e_radd at h
  split at h
  · rename_i a b c d
    cases h
    simp at hb
    have e := radd (isU_of hb.1) (isU_of hb.2.1) (isU_of hb.2.2.1) (isU_of hb.2.2.2)
    rw [← e.1, ← e.2.1, ← e.2.2]
    exact ok_haymowref01_Add m [.agg [vu a, vu b], .agg [vu c, vu d]] (s_haymowref01_Add a b c d) none [] rfl rfl
  · cases h
def e_wsub : Spec := fun _ args => match args with
  | [.agg [.val (.int .u64 a), .val (.int .u64 b)], .agg [.val (.int .u64 c), .val (.int .u64 d)]] => some (.tup [.agg [vu (subH (wv a b) (wv c d)), vu (subL (wv a b) (wv c d))], vb (subF (wv a b) (wv c d))], none, [inU a, inU b, inU c, inU d])
  | _ => none
theorem ok_wsub : SpecOk Try.prog 27 e_wsub := fun m args v mo bs h hb => by
  unfold e_wsub at h
  split at h
  · rename_i a b c d
    cases h
    simp at hb
    have e := wsub (isU_of hb.1) (isU_of hb.2.1) (isU_of hb.2.2.1) (isU_of hb.2.2.2)
    rw [← e.1, ← e.2.1, ← e.2.2.1]
    exact ok_wide_Sub m [.agg [vu a, vu b], .agg [vu c, vu d]] (s_wide_Sub a b c d) none [c_wide_Sub a b c d] rfl (by simp [e.2.2.2])
  · cases h
def e_rsub : Spec := fun _ args => match args with
  | [.agg [.val (.int .u64 a), .val (.int .u64 b)], .agg [.val (.int .u64 c), .val (.int .u64 d)]] => some (.tup [.agg [vu (subH (wv a b) (wv c d)), vu (subL (wv a b) (wv c d))], vb (subF (wv a b) (wv c d))], none, [inU a, inU b, inU c, inU d])
  | _ => none
theorem ok_rsub : SpecOk Try.prog 28 e_rsub := fun m args v mo bs h hb => by
  unfold e_rsub at h
  split at h
  · rename_i a b c d
    cases h
    simp at hb
    have e := rsub (isU_of hb.1) (isU_of hb.2.1) (isU_of hb.2.2.1) (isU_of hb.2.2.2)
    rw [← e.1, ← e.2.1, ← e.2.2]
    exact ok_haymowref01_Sub m [.agg [vu a, vu b], .agg [vu c, vu d]] (s_haymowref01_Sub a b c d) none [] rfl rfl
  · cases h
def e_wmul : Spec := fun _ args => match args with
  | [.agg [.val (.int .u64 a), .val (.int .u64 b)], .val (.int .u64 n)] => some (.tup [.agg [vu (satH (wv a b * n)), vu (satL (wv a b * n))], vb (satF (wv a b * n))], none, [inU a, inU b, inU n])
  | _ => none
theorem ok_wmul : SpecOk Try.prog 16 e_wmul := fun m args v mo bs h hb => by
  unfold e_wmul at h
  split at h
  · rename_i a b n
    cases h
    simp at hb
    have e := wmul (isU_of hb.1) (isU_of hb.2.1) (isU_of hb.2.2)
    rw [← e.1, ← e.2.1, ← e.2.2.1]
    exact ok_wide_Mul m [.agg [vu a, vu b], vu n] (s_wide_Mul a b n) none [c_wide_Mul a b n] rfl (by simp [e.2.2.2])
  · cases h
def e_rmul : Spec := fun _ args => match args with
  | [.agg [.val (.int .u64 a), .val (.int .u64 b)], .val (.int .u64 n)] => some (.tup [.agg [vu (satH (wv a b * n)), vu (satL (wv a b * n))], vb (satF (wv a b * n))], none, [inU a, inU b, inU n])
  | _ => none
theorem ok_rmul : SpecOk Try.prog 17 e_rmul := fun m args v mo bs h hb => by
  unfold e_rmul at h
  split at h
  · rename_i a b n
    cases h
    simp at hb
    have e := rmul (isU_of hb.1) (isU_of hb.2.1) (isU_of hb.2.2)
    rw [← e.1, ← e.2.1, ← e.2.2]
    exact ok_haymowref01_Mul m [.agg [vu a, vu b], vu n] (s_haymowref01_Mul a b n) none [] rfl rfl
  · cases h
def e_wless : Spec := fun _ args => match args with
  | [.agg [.val (.int .u64 a), .val (.int .u64 b)], .agg [.val (.int .u64 c), .val (.int .u64 d)]] => some (vb (decide (wv a b < wv c d)), none, [inU a, inU b, inU c, inU d])
  | _ => none
theorem ok_wless : SpecOk Try.prog 31 e_wless := fun m args v mo bs h hb => by
  unfold e_wless at h
  split at h
  · rename_i a b c d
    cases h
    simp at hb
    rw [← wless (isU_of hb.1) (isU_of hb.2.1) (isU_of hb.2.2.1) (isU_of hb.2.2.2)]
    exact ok_wide_Less m [.agg [vu a, vu b], .agg [vu c, vu d]] (s_wide_Less a b c d) none [] rfl rfl
  · cases h
def wErr (n : Int) : Int := bif n == 0 then 1 else 0
def wLft (a b n : Int) : Int := bif n == 0 then 0 else qR a b n
def e_wdz : Spec := fun _ args => match args with
  | [.agg [.val (.int .u64 a), .val (.int .u64 b)], .val (.int .u64 n)] => some (.tup [.agg [vu (qH a b n), vu (qL a b n)], vu (wLft a b n), vi (wErr n)], none, [inU a, inU b, inU n])
  | _ => none
theorem ok_wdz : SpecOk Try.prog 18 e_wdz := fun m args v mo bs h hb => by
  unfold e_wdz at h
  split at h
  · rename_i a b n
    cases h
    simp at hb
    by_cases hn : n = 0
    · subst hn
      refine pure_fn (c := bodyOf Try.f18) (cuts := []) (ns := []) (top := 99) (m' := ⟨[], 99⟩) hE_dv mixed (fun xs w => Try.call18 xs w) Try.func18 rfl ?_ rfl rfl
      rw [wd_run]
      unfold qH qL qD wErr wLft
      rw [Int.ediv_zero]
      rfl
    · have hu := isU_of hb.2.2
      unfold isU at hu
      have h := ok_wd m [.agg [vu a, vu b], vu n] (qAnsE a b n) none [inU a, inU b, inU n, decide (0 < n)] rfl (by simp [hb]; omega)
      unfold wErr wLft
      rw [show (n == 0) = false from beq_false_of_ne hn]
      exact h
  · cases h
def L_w : List (FuncId × Spec) := [(15, e_haymowlaw01_awake), (26, e_wadd), (20, e_radd), (27, e_wsub), (28, e_rsub), (16, e_wmul), (17, e_rmul), (31, e_wless), (18, e_wdz), (19, e_rd), (34, e_wide_Of)]
theorem hE_w : ESound Try.prog (envOf L_w) := env_cons ok_haymowlaw01_awake (env_cons ok_wadd (env_cons ok_radd (env_cons ok_wsub (env_cons ok_rsub (env_cons ok_wmul (env_cons ok_rmul (env_cons ok_wless (env_cons ok_wdz (env_cons ok_rd (env_cons ok_wide_Of env_nil))))))))))
end Go.Proofs.Ytanfjgkohhlcoaa
