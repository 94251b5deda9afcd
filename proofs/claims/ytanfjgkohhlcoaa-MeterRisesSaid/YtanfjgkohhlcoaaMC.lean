/-
  A meter: what there was behind so many steps; all contracts together; the page's example.
-/
import Derived.Test.YtanfjgkohhlcoaaMB
namespace Go.Proofs.Ytanfjgkohhlcoaa
open Go Go.RowKit
theorem since_run (a b c d h g s t : Int) : F_ Try.prog (L_sp Try.prog Try.f66 Try.f67) Try.f68 [] [] 99 [.ptr 0 1 0 0, .agg [vu s, vu t]] (mtR a b c d h g) =
    some (.ret (.agg [vu (wide_Sub_0 (haymowref07_Steps_0 a b c d h g) (haymowref07_Steps_1 a b c d h g) s t), vu (wide_Sub_1 (haymowref07_Steps_0 a b c d h g) (haymowref07_Steps_1 a b c d h g) s t)]) ⟨[], 99⟩ (bif inU a then bif inU b then bif inU c then bif inU d then bif c_wide_Sub (haymowref07_Steps_0 a b c d h g) (haymowref07_Steps_1 a b c d h g) s t then true else false else false else false else false else false)) := by kernel_rfl
theorem steps_isU {a b c d : Int} (h g : Int) (ha : isU a) (hb : isU b) (hc : isU c) (hd : isU d) : isU (haymowref07_Steps_0 a b c d h g) ∧ isU (haymowref07_Steps_1 a b c d h g) := by
  obtain ⟨g1, g2, _⟩ := radd ha hb hc hd
  unfold haymowref07_Steps_0 haymowref07_Steps_1
  rw [g1, g2]
  exact sat_isU (Int.add_nonneg (wv_nn ha hb) (wv_nn hc hd))
def e_since : Spec := fun m args => match args with
  | [.ptr l 1 0 0, .agg [.val (.int .u64 s), .val (.int .u64 t)]] => match look m.bl l with
    | some ⟨_, _, .cells [.val (.int .u64 a), .val (.int .u64 b), .val (.int .u64 c), .val (.int .u64 d), .val (.int .i64 h), .val (.int .i64 g)]⟩ => some (.agg [vu (haymowref01_Sub_0 (haymowref07_Steps_0 a b c d h g) (haymowref07_Steps_1 a b c d h g) s t), vu (haymowref01_Sub_1 (haymowref07_Steps_0 a b c d h g) (haymowref07_Steps_1 a b c d h g) s t)], none, [inU a, inU b, inU c, inU d, inU s, inU t])
    | _ => none
  | _ => none
theorem ok_since : SpecOk Try.prog 68 e_since := fun m args v mo bs he hb => by
  unfold e_since at he
  split at he
  · rename_i l s t
    split at he
    · rename_i wr op a b c d h g hl
      cases he
      simp only [List.all_cons, List.all_nil, id, Bool.and_eq_true, Bool.and_true] at hb
      obtain ⟨i1, i2, i3, i4, i5, i6⟩ := hb
      obtain ⟨u1, u2⟩ := steps_isU h g (of_inU i1) (of_inU i2) (of_inU i3) (of_inU i4)
      obtain ⟨h1, h2, _, h4⟩ := wsub u1 u2 (of_inU i5) (of_inU i6)
      obtain ⟨g1, g2, _⟩ := rsub u1 u2 (of_inU i5) (of_inU i6)
      have hr := since_run a b c d h g s t
      rw [h1, h2, h4, i1, i2, i3, i4, ← g1, ← g2] at hr
      exact lift_p (ar := []) (br := [.agg [vu s, vu t]]) hl rfl (fsound (c := bodyOf Try.f68) (fun xs w => Try.call68 xs w) Try.func68 rfl (F_ret hE_sp mixed rfl rfl hr)) rfl rfl rfl rfl
    · cases he
  · cases he
def L_m7 (P : Program) (fNew fHold fFree fStep fHeld fHigh fOf fSteps fSince : Func) : List (FuncId × Spec) :=
  (55, inl P L_mt fNew) :: (56, orS e_hold (inlP P L_mt fHold)) :: (58, orS e_free (inlP P L_mt fFree)) :: (60, orS e_step (inlP P L_mt fStep)) :: (62, e_rstep) ::
  (64, orS e_held (inlP P L_mt fHeld)) :: (65, orS e_high (inlP P L_mt fHigh)) :: (68, orS e_since (inlP P (L_sp P fOf fSteps) fSince)) :: L_sp P fOf fSteps
theorem hE_m7 : ESound Try.prog (envOf (L_m7 Try.prog Try.f55 Try.f56 Try.f58 Try.f60 Try.f64 Try.f65 Try.f66 Try.f67 Try.f68)) :=
  env_cons (inl_ok hE_mt mixed (fun xs w => Try.call55 xs w) Try.func55 rfl)
    (env_cons (orS_ok ok_hold (inlP_ok hE_mt mixed (fun xs w => Try.call56 xs w) Try.func56 rfl))
      (env_cons (orS_ok ok_free (inlP_ok hE_mt mixed (fun xs w => Try.call58 xs w) Try.func58 rfl))
        (env_cons (orS_ok ok_step (inlP_ok hE_mt mixed (fun xs w => Try.call60 xs w) Try.func60 rfl))
          (env_cons ok_rstep
            (env_cons (orS_ok ok_held (inlP_ok hE_mt mixed (fun xs w => Try.call64 xs w) Try.func64 rfl))
              (env_cons (orS_ok ok_high (inlP_ok hE_mt mixed (fun xs w => Try.call65 xs w) Try.func65 rfl))
                (env_cons (orS_ok ok_since (inlP_ok hE_sp mixed (fun xs w => Try.call68 xs w) Try.func68 rfl)) hE_sp)))))))
theorem aw07 : F_ Try.prog (L_m7 Try.prog Try.f55 Try.f56 Try.f58 Try.f60 Try.f64 Try.f65 Try.f66 Try.f67 Try.f68) Try.f54 [] [] 999 [] noMem = some (.ret (vb true) ⟨[], 999⟩ true) := by kernel_rfl
def e_aw07 : Spec := fun _ args => match args with
  | [] => some (vb true, none, [])
  | _ => none
theorem ok_aw07 : SpecOk Try.prog 54 e_aw07 := fun m args v mo bs h hb => by
  unfold e_aw07 at h
  split at h
  · cases h
    exact pure_fn (c := bodyOf Try.f54) hE_m7 mixed (fun xs w => Try.call54 xs w) Try.func54 rfl aw07 rfl rfl
  · cases h
end Go.Proofs.Ytanfjgkohhlcoaa
