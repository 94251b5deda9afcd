/-
  Contracts off the shelf, as the executor takes them.
-/
import Derived.Test.YtnkpegdmbocgaaaDoorEx13
namespace Go.Proofs.YtnkpegdmbocgaaaDoor
open Go Go.RowKit
section
variable {P : Program}
theorem calls_fn {f g : FuncId} {m : MS} {args : List AV} {v : AV} (hc : ∀ xs w, (callFunc f xs).run P w = .ok (.enter g xs) w) (h : ∀ (ρ : Rho) (xs : List Value) (w : World), AV.rels ρ m.nx args xs → Calls P g xs.toArray w fun e w' => (∃ x, e = .returned x ∧ AV.rel ρ m.nx v x) ∧ w' = w) : FSound P f m args v m := fun ρ w xs hm hx => by
  refine .inl ⟨g, hc _ w, Calls.mono (h ρ xs w hx) ?_⟩
  rintro e w' ⟨⟨x, rfl, hr⟩, rfl⟩
  exact ⟨x, rfl, ρ, hr, hm, Moves.refl (Nat.le_refl _)⟩
theorem lookF_app {α : Type} : ∀ (l l' : List (FuncId × α)) (k : FuncId), lookF (l ++ l') k = match lookF l k with
    | some g => some g
    | none => lookF l' k
  | [], _, _ => rfl
  | (f, g) :: r, l', k => by
    simp only [List.cons_append, lookF]
    split
    · rfl
    · exact lookF_app r l' k
theorem env_app {l l' : List (FuncId × Spec)} (h : ESound P (envOf l)) (h' : ESound P (envOf l')) : ESound P (envOf (l ++ l')) := by
  refine ⟨fun f m args v mo bs e hb => ?_, (fun m args v mo bs e _ => by cases e)⟩
  unfold envOf at e
  dsimp only at e
  rw [lookF_app] at e
  have h1 := h.fn f m args v mo bs
  have h2 := h'.fn f m args v mo bs
  unfold envOf at h1 h2
  dsimp only at h1 h2
  cases hl : lookF l f with
  | some g =>
    rw [hl] at e h1
    exact h1 e hb
  | none =>
    rw [hl] at e
    exact h2 e hb
/-- One number in, plain values out. -/
theorem calls_int {f g : FuncId} {m : MS} {k : IntKind} {x : Int} {u : Value} (hc : ∀ xs w, (callFunc f xs).run P w = .ok (.enter g xs) w) (h : ∀ w, Calls P g #[.int k x] w fun e w' => e = .returned u ∧ w' = w) : FSound P f m [.val (.int k x)] (.val u) m := by
  refine calls_fn hc fun ρ xs w hx => ?_
  simp only [AV.rels, AV.rel] at hx
  obtain ⟨_, _, rfl, rfl, rfl⟩ := hx
  refine Calls.mono (h w) ?_
  rintro e w' ⟨rfl, rfl⟩
  exact ⟨⟨_, rfl, by simp [AV.rel]⟩, rfl⟩
end
end Go.Proofs.YtnkpegdmbocgaaaDoor
