/-
  Packing a header's numbers.
-/
import Derived.Test.YtnkpegdmbocgaaaFH
import Derived.Test.YtnkpegdmbocgaaaEx13
namespace Go.Proofs.Ytnkpegdmbocgaaa
open Go Go.RowKit
theorem lift_two {f : FuncId} {m m1' : MS} {v : AV} {l l' wd wd' r r' s s' n n' : Nat} {nn nn' : Bool} {cap cap' : Option Nat} {b b' : ABlk} (hl : look m.bl l = some b) (hl' : look m.bl l' = some b') (hg : b.cont.ground = true) (hg' : b'.cont.ground = true)
    (h : FSound Try.prog f ⟨[(0, some ⟨false, false, b.cont⟩), (1, some ⟨false, false, b'.cont⟩)], 2⟩ [.sl nn 0 wd r s n cap, .sl nn' 1 wd' r' s' n' cap'] v m1') (hv : v.ground = true) : FSound Try.prog f m [.sl nn l wd r s n cap, .sl nn' l' wd' r' s' n' cap'] v m := by
  refine lift_pure h rfl hv fun ρ w xs hm hr => ?_
  refine ⟨fun k => ρ (bif Nat.beq k 0 then l else l'), hm.views (fun k => bif Nat.beq k 0 then l else l') (fun k b1 hk => ?_), ?_⟩
  · rw [look_cons] at hk
    split at hk
    · rename_i e; subst e; cases hk
      exact ⟨by show (0 : Nat) < 2; omega, rfl, rfl, hg, b, hl, rfl⟩
    · rw [look_cons] at hk
      split at hk
      · rename_i e; subst e; cases hk
        exact ⟨by show (1 : Nat) < 2; omega, rfl, rfl, hg', b', hl', rfl⟩
      · cases hk
  · simp only [AV.rels] at hr ⊢
    obtain ⟨x, _, rfl, h1, y, _, rfl, h2, rfl⟩ := hr
    exact ⟨x, _, rfl, sl_as h1 (by show (0 : Nat) < 2; omega) rfl, y, _, rfl, sl_as h2 (by show (1 : Nat) < 2; omega) rfl, rfl⟩
-- field.Apart of a header's fields
theorem run_apart (nn : Bool) (cap : Option Nat) : F_ Try.prog L_fields Try.f60 [] [] 999 [.sl nn 0 2 0 1 6 cap] ⟨[(0, some ⟨false, false, hdRows⟩)], 1⟩ = some (.ret (vb true) ⟨[], 999⟩ true) := by kernel_rfl
def e_apart : Spec := fun m args => match args with
  | [.sl nn l 2 0 1 6 cap] => match look m.bl l with
    | some ⟨_, _, .rows [.ints .i64 [0, 12, 24, 29, 32, 62], .ints .i64 [12, 12, 5, 3, 1, 1]]⟩ => some (vb true, none, [])
    | _ => none
  | _ => none
theorem ok_apart : SpecOk Try.prog 60 e_apart := fun m args v mo bs h hb => by
  unfold e_apart at h
  split at h
  · rename_i nn l cap
    split at h
    · rename_i wr op hl
      cases h
      exact lift_one (ar := []) (br := []) hl rfl (fsound (c := bodyOf Try.f60) (fun xs w => Try.call60 xs w) Try.func60 rfl (F_ret hE_fields mixed rfl rfl (run_apart nn cap))) rfl rfl rfl rfl
    · cases h
  · cases h
def L_apart : List (FuncId × Spec) := (60, e_apart) :: L_fields
theorem hE_apart : ESound Try.prog (envOf L_apart) := env_cons ok_apart hE_fields
end Go.Proofs.Ytnkpegdmbocgaaa
