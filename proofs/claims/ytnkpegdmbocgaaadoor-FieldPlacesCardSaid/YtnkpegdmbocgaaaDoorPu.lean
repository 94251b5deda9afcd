/-
  math/bits.TrailingZeros64: its contract.
-/
import Derived.Test.YtnkpegdmbocgaaaDoorPt
namespace Go.Proofs.YtnkpegdmbocgaaaDoor
open Go Go.RowKit
theorem tz_le (n : Nat) : (tzN n : Int) ≤ 64 := by
  cases hf : (List.range 64).find? n.testBit with
  | none => simp [tzN, hf]
  | some k => have := (tzN_some hf).1; simp [tzN, hf]; omega
abbrev tzM : MS := ⟨[(0, some ⟨false, false, .obj (.glob 0 (.ints .u8 tzTab))⟩)], 1⟩
theorem run_tz (x : Int) : F_ Tryd.prog [] Tryd.f29 [] [] 99 [.val (.int .u64 x)] tzM = bif x == 0 then some (.ret (vi 64) ⟨[], 99⟩ true) else
    some (.ret (vi (IntKind.i64.wrap (tzTab.getD (Int.fdiv (IntKind.u64.wrap (bits .and .u64 x (IntKind.u64.wrap (0 - x)) * 285870213051353865)) (2 ^ (min (Int.toNat 58) (IntKind.bits .u64)))).toNat 0))) ⟨[], 99⟩
      (conj [decide (0 ≤ (Int.fdiv (IntKind.u64.wrap (bits .and .u64 x (IntKind.u64.wrap (0 - x)) * 285870213051353865)) (2 ^ (min (Int.toNat 58) (IntKind.bits .u64))))), decide ((Int.fdiv (IntKind.u64.wrap (bits .and .u64 x (IntKind.u64.wrap (0 - x)) * 285870213051353865)) (2 ^ (min (Int.toNat 58) (IntKind.bits .u64)))).toNat < 64),
        decide ((Int.fdiv (IntKind.u64.wrap (bits .and .u64 x (IntKind.u64.wrap (0 - x)) * 285870213051353865)) (2 ^ (min (Int.toNat 58) (IntKind.bits .u64)))).toNat < tzTab.length)])) := by kernel_rfl
theorem fs_tz {x : Int} (h0 : 0 ≤ x) (h1 : x ≤ 18446744073709551615) : FSound Tryd.prog 29 tzM [.val (.int .u64 x)] (vi (tzN x.toNat)) ⟨[], 99⟩ := by
  have h := run_tz x
  by_cases hx : x = 0
  · subst hx
    exact fsound (c := bodyOf Tryd.f29) (fun xs w => Tryd.call29 xs w) Tryd.func29 rfl (F_ret env_nil mixed rfl rfl h)
  · rw [show (x == 0) = false by simpa using hx, cond_false] at h
    obtain ⟨i0, i1, ht⟩ := tzI_eq h0 (by omega) hx
    have e : Int.fdiv (IntKind.u64.wrap (bits .and .u64 x (IntKind.u64.wrap (0 - x)) * 285870213051353865)) (2 ^ (min (Int.toNat 58) (IntKind.bits .u64))) = tzI x := by
      have e58 : (2 : Int) ^ (min (Int.toNat 58) (IntKind.bits .u64)) = 288230376151711744 := by decide
      rw [e58, Int.fdiv_eq_ediv_of_nonneg _ (by decide), Int.zero_sub]
      rfl
    rw [e, ht] at h
    have hw : IntKind.i64.wrap (tzN x.toNat : Int) = (tzN x.toNat : Int) := by
      have := tz_le x.toNat
      rw [IntKind.wrap_i64]
      omega
    rw [hw] at h
    have hl : tzTab.length = 64 := rfl
    have hc : conj [decide (0 ≤ tzI x), decide ((tzI x).toNat < 64), decide ((tzI x).toNat < tzTab.length)] = true := by
      rw [hl]
      have : (tzI x).toNat < 64 := by omega
      simp [conj, i0, this]
    rw [hc] at h
    exact fsound (c := bodyOf Tryd.f29) (fun xs w => Tryd.call29 xs w) Tryd.func29 rfl (F_ret env_nil mixed rfl rfl h)
/-- The table lies in memory. -/
def isTab (m : MS) : Bool := match globOf m.bl 0 with
  | some (l, _) => match look m.bl l with
    | some ⟨_, _, .obj (.glob 0 (.ints .u8 zs))⟩ => decide (zs = tzTab)
    | _ => false
  | none => false
def e_tz : Spec := fun m args => match args with
  | [.val (.int .u64 x)] => match isTab m with
    | true => some (vi (tzN x.toNat), none, [decide (0 ≤ x), decide (x ≤ 18446744073709551615)])
    | false => none
  | _ => none
theorem ok_tz : SpecOk Tryd.prog 29 e_tz := fun m args v mo bs h hb => by
  unfold e_tz at h
  split at h <;> try cases h
  split at h <;> try cases h
  rename_i x ht
  simp at hb
  unfold isTab at ht
  split at ht <;> try cases ht
  split at ht <;> try cases ht
  rename_i l _ _ _ _ _ zs hl
  have ht := of_decide_eq_true ht
  subst ht
  refine lift_pure (fs_tz hb.1 (by omega)) rfl rfl fun ρ w xs hm hx => ?_
  refine ⟨fun _ => ρ l, mrel_one (hm.view hl rfl _ _), ?_⟩
  simp only [AV.rels, AV.rel] at hx ⊢
  exact hx
def L_tz : List (FuncId × Spec) := [(29, e_tz)]
theorem hE_tz : ESound Tryd.prog (envOf L_tz) := env_cons ok_tz env_nil
end Go.Proofs.YtnkpegdmbocgaaaDoor
