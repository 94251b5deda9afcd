/-
  A callee that is run in place: where all its tests are decided.
-/
import Derived.Test.YtnkpegdmbocgaaaDoorExH
namespace Go.Proofs.YtnkpegdmbocgaaaDoor
open Go Go.RowKit
def finI (P : Program) (fn : Func) : Out → List Bool → Option (AV × Option MS × List Bool)
  | .ret tm m, bs => match resA P fn tm m with
    | some (v, bs') => some (v, some m, bs ++ bs')
    | none => none
  | .head .., _ => none
  | .left .., _ => none
def inl (P : Program) (l : List (FuncId × Spec)) (f : Func) : Spec := fun m args =>
  run P (envOf l) (drawAB P (envOf l)) [] (finI P f) 1000000 (enterA f (bodyOf f) args m).todo (enterA f (bodyOf f) args m).tm m []
theorem inl_ok {P : Program} {l : List (FuncId × Spec)} {f g : FuncId} {fn : Func} {c : Code} (hE : ESound P (envOf l)) (hm : MixedOk P) (hc : ∀ xs w, (callFunc f xs).run P w = .ok (.enter g xs) w) (hf : P.funcs[g]? = some fn) (hb : fn.body = some c) : SpecOk P f (inl P l fn) := by
  intro m args v mo bs h hbs
  have e : bodyOf fn = c := by unfold bodyOf; rw [hb]
  unfold inl at h
  rw [e] at h
  refine fsound hc hf hb ?_
  obtain ⟨o, bs', h0, _, h2⟩ := run_ok (B := m.nx) hE (drawAB_ok hE hm) (by rfl) _ _ _ _ _ _ h
  cases o with
  | ret tm1 m1 =>
    simp only [finI] at h0
    split at h0
    · rename_i v1 bs1 hr
      cases h0
      obtain ⟨b1, b2⟩ := all_app hbs
      intro b cs ρ a w hro ht hm hB
      obtain ⟨ρ', a', w', todo', st, ht', hd', hm', mv⟩ := h2 b1 b cs ρ a w hro ht hm hB
      obtain ⟨x, hx1, hx2⟩ := resA_ok (P := P) hr ht' hm' b2
      exact ⟨ρ', a', w', todo', x, st, hd', hx1, hx2, hm', mv⟩
    · cases h0
  | head todo1 tm1 m1 => simp only [finI] at h0; cases h0
  | left j1 tm1 m1 => cases h0
/-- The same, of plain values alone: nothing else is seen. -/
def inlP (P : Program) (l : List (FuncId × Spec)) (f : Func) : Spec := fun _ args => match AV.grounds args with
  | true => match inl P l f noMem args with
    | some (v, some _, bs) => match v.ground with
      | true => some (v, none, bs)
      | false => none
    | _ => none
  | false => none
theorem inlP_ok {P : Program} {l : List (FuncId × Spec)} {f g : FuncId} {fn : Func} {c : Code} (hE : ESound P (envOf l)) (hm : MixedOk P) (hc : ∀ xs w, (callFunc f xs).run P w = .ok (.enter g xs) w) (hf : P.funcs[g]? = some fn) (hb : fn.body = some c) : SpecOk P f (inlP P l fn) := by
  intro m args v mo bs h hbs
  unfold inlP at h
  split at h
  · rename_i ha
    split at h
    · rename_i v' m' bs' hi
      split at h
      · rename_i hv
        cases h
        exact lift_ground (inl_ok hE hm hc hf hb noMem args v (some m') bs hi hbs) ha hv
      · cases h
    · cases h
  · cases h
/-- One contract, or else another. -/
def orS (a b : Spec) : Spec := fun m args => match a m args with
  | some r => some r
  | none => b m args
theorem orS_ok {P : Program} {f : FuncId} {a b : Spec} (ha : SpecOk P f a) (hb : SpecOk P f b) : SpecOk P f (orS a b) := by
  intro m args v mo bs h hbs
  unfold orS at h
  split at h
  · rename_i r hr
    cases h
    exact ha m args v mo bs hr hbs
  · exact hb m args v mo bs h hbs
end Go.Proofs.YtnkpegdmbocgaaaDoor
