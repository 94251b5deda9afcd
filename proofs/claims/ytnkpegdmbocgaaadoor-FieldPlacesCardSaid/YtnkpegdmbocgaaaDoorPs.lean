/-
  The law FieldPlaces: it answers true.
-/
import Derived.Test.YtnkpegdmbocgaaaDoorPr
import Derived.Test.YtnkpegdmbocgaaaDoorSm2
import Derived.Test.YtnkpegdmbocgaaaDoorArg
namespace Go.Proofs.YtnkpegdmbocgaaaDoor
open Go Go.RowKit
set_option maxRecDepth 100000
abbrev L_aw (P : Program) (f : Func) : List (FuncId × Spec) := (9, e_pl) :: (10, orS e_same2 (inl P [] f)) :: (8, e_rp) :: L_field_Ones
theorem hE_aw : ESound Tryd.prog (envOf (L_aw Tryd.prog Tryd.f10)) := env_cons ok_pl (env_cons ok_sameC (env_cons ok_rp hE_field_Ones))
theorem run_awake : F_ Tryd.prog (L_aw Tryd.prog Tryd.f10) Tryd.f7 [] [] 99 [] tzM = some (.ret (vb true) ⟨[], 99⟩ true) := by kernel_rfl
def e_aw : Spec := fun m args => match args with
  | [] => match isTab m with
    | true => some (vb true, none, [])
    | false => none
  | _ => none
theorem ok_aw : SpecOk Tryd.prog 7 e_aw := fun m args v mo bs h hb => by
  unfold e_aw at h
  split at h <;> try cases h
  split at h <;> try cases h
  rename_i ht
  unfold isTab at ht
  split at ht <;> try cases ht
  split at ht <;> try cases ht
  rename_i l _ _ _ _ _ zs hl
  have ht := of_decide_eq_true ht
  subst ht
  refine lift_pure (fsound (c := bodyOf Tryd.f7) (m := tzM) (fun xs w => Tryd.call7 xs w) Tryd.func7 rfl (F_ret hE_aw mixed rfl rfl run_awake)) rfl rfl fun ρ w xs hm hx => ?_
  refine ⟨fun _ => ρ l, mrel_one (hm.view hl rfl _ _), ?_⟩
  simp only [AV.rels] at hx ⊢
  exact hx
abbrev L_lw (P : Program) (f : Func) : List (FuncId × Spec) := (7, e_aw) :: L_aw P f
theorem hE_lw : ESound Tryd.prog (envOf (L_lw Tryd.prog Tryd.f10)) := env_cons ok_aw hE_aw
theorem run_fp (x s : Int) : F_ Tryd.prog (L_lw Tryd.prog Tryd.f10) Tryd.f3 [] [] 99 [vu x, .val (.int .u8 s)] tzM =
    some (.ret (vb (bif (bif sameL (((placesN x.toNat).take (Int.toNat 70)).take ((placesN x.toNat).take (Int.toNat 70)).length) ((placesN x.toNat).take (placesN x.toNat).length) then
      sameL (((placesN x.toNat).take (IntKind.i64.wrap s).toNat).take ((placesN x.toNat).take (IntKind.i64.wrap s).toNat).length) ((placesN x.toNat).take ((min ((placesN x.toNat).length : Int) (IntKind.i64.wrap s)).toNat - Int.toNat 0)) else false) then field_Ones_0 x == ((placesN x.toNat).length : Int) else false)) ⟨[], 99⟩
      (conj ([decide (0 ≤ x), decide (x ≤ 18446744073709551615), decide (0 ≤ x), decide (x ≤ 18446744073709551615), decide (0 ≤ x), decide (x ≤ 18446744073709551615),
        Nat.ble ((placesN x.toNat).take (Int.toNat 70)).length ((placesN x.toNat).take (Int.toNat 70)).length, Nat.ble (placesN x.toNat).length (placesN x.toNat).length, Nat.ble ((placesN x.toNat).take (Int.toNat 70)).length 9223372036854775807] ++
        imps (sameL (((placesN x.toNat).take (Int.toNat 70)).take ((placesN x.toNat).take (Int.toNat 70)).length) ((placesN x.toNat).take (placesN x.toNat).length)) [true, decide (0 ≤ min ((placesN x.toNat).length : Int) (IntKind.i64.wrap s)), decide (min ((placesN x.toNat).length : Int) (IntKind.i64.wrap s) ≤ ((placesN x.toNat).length : Int)),
          Nat.ble ((placesN x.toNat).take (IntKind.i64.wrap s).toNat).length ((placesN x.toNat).take (IntKind.i64.wrap s).toNat).length, Nat.ble ((min ((placesN x.toNat).length : Int) (IntKind.i64.wrap s)).toNat - Int.toNat 0) (placesN x.toNat).length, Nat.ble ((placesN x.toNat).take (IntKind.i64.wrap s).toNat).length 9223372036854775807]))) := by kernel_rfl
end Go.Proofs.YtnkpegdmbocgaaaDoor
