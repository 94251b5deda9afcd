/-
  The gate is fair, in plain numbers. No program here.
-/
import Derived.Test.YtlcaanodbhigkaaPGate
namespace Go.Proofs.Ytlcaanodbhigkaa
theorem afterG_min (l t d : Int) (g : GS) (live words : Int) (hl : 0 ≤ l) (ht : 0 ≤ t) (htl : t ≤ l) (h : g.ok l d) : t ≤ (afterG l t d g live words).T ∧
    min (2 * min (max (needOf l live words) 0) l) l ≤ (afterG l t d g live words).T ∧ (afterG l t d g live words).T ≤ l ∧ min (max (needOf l live words) 0) l ≤ (afterG l t d g live words).T := by
  have h1 := step_law l t d (g.T, g.q) (needOf l live words) hl ht htl ⟨h.1, h.2.1, h.2.2.1, h.2.2.2.1⟩
  exact ⟨h1.1, h1.2.1, h1.2.2.1, h1.2.2.2.1⟩
theorem judgeG_min (l t d : Int) (g : GS) (used live words : Int) (hl : 0 ≤ l) (ht : 0 ≤ t) (htl : t ≤ l) (h : g.ok l d) (hb : t ≤ g.T) : t ≤ (judgeG l t d g used live words).T := by
  unfold judgeG
  split
  · exact (afterG_min l t d g live words hl ht htl h).1
  · exact hb
theorem fair_forms (l t d : Int) (g : GS) (live more words : Int) (hl : 0 ≤ l) (ht : 0 ≤ t) (htl : t ≤ l) (h : g.ok l d) (h0 : 0 ≤ live) (h1 : 0 ≤ more) (h2 : 0 ≤ words) :
    (overB (live + more) words g.T = false ∧ grantB l g (live + more) live words = true ∧ judgeG l t d g (live + more) live words = g ∧ live + more + words ≤ g.T ∧ live + words ≤ l) ∨
    (overB (live + more) words g.T = true ∧ grantB l g (live + more) live words = false ∧ g.T < live + more + words ∧ l < live + words) ∨
    (overB (live + more) words g.T = true ∧ grantB l g (live + more) live words = true ∧ g.T < live + more + words ∧ live + words ≤ l ∧ (judgeG l t d g (live + more) live words).b = live + words ∧
      live + words ≤ (judgeG l t d g (live + more) live words).T ∧ min (2 * (live + words)) l ≤ (judgeG l t d g (live + more) live words).T) := by
  have hT := h.2.1
  cases hc : overB (live + more) words g.T with
  | false =>
    have h3 := (overB_not _ _ _).1 hc
    exact .inl ⟨rfl, by simp [grantB, hc], by simp [judgeG, hc], by omega, by omega⟩
  | true =>
    have h3 := (overB_iff _ _ _).1 hc
    cases hg : overB live words l with
    | true =>
      have h4 := (overB_iff _ _ _).1 hg
      exact .inr (.inl ⟨rfl, by simp [grantB, hc, hg], by omega, by omega⟩)
    | false =>
      have h4 := (overB_not _ _ _).1 hg
      have h5 := afterG_min l t d g live words hl ht htl h
      have e : needOf l live words = live + words := by unfold needOf; rw [hg]; simp; omega
      rw [e] at h5
      have e2 : (judgeG l t d g (live + more) live words) = afterG l t d g live words := by simp [judgeG, hc]
      rw [e2]
      exact .inr (.inr ⟨rfl, by simp [grantB, hc, hg], by omega, by omega, e, by omega, by omega⟩)
end Go.Proofs.Ytlcaanodbhigkaa
