/-
  The gate of layer 28 in plain numbers. No program here.
-/
import Derived.Test.YtlcaanodbhigkaaPControl
namespace Go.Proofs.Ytlcaanodbhigkaa
/-- Are two numbers, from 0 on, together above a third one? -/
def overB (a b m : Int) : Bool := decide (m < max a 0) || decide (m - max a 0 < max b 0)
theorem overB_iff (a b m : Int) : overB a b m = true ↔ m < max a 0 + max b 0 := by
  unfold overB
  rw [Bool.or_eq_true, decide_eq_true_iff, decide_eq_true_iff]
  omega
theorem overB_not (a b m : Int) : overB a b m = false ↔ max a 0 + max b 0 ≤ m := by
  rw [← Bool.not_eq_true, overB_iff]; omega
def needOf (l live words : Int) : Int := if overB live words l then min (max live 0) l else min (max live 0) l + max words 0
theorem needOf_bd (l live words : Int) (hl : 0 ≤ l) : 0 ≤ needOf l live words ∧ needOf l live words ≤ l := by
  unfold needOf
  split
  · omega
  · rename_i h
    rw [Bool.not_eq_true, overB_not] at h
    omega
/-- A gate: threshold, quiet ones, base. -/
structure GS where
  T : Int
  q : Int
  b : Int
def GS.ok (l d : Int) (g : GS) : Prop := 0 ≤ g.T ∧ g.T ≤ l ∧ 0 ≤ g.q ∧ g.q ≤ d ∧ 0 ≤ g.b ∧ g.b ≤ l
def afterG (l t d : Int) (g : GS) (live words : Int) : GS := ⟨nextT l t d g.T g.q (needOf l live words), nextQ l t d g.T g.q (needOf l live words), needOf l live words⟩
def judgeG (l t d : Int) (g : GS) (used live words : Int) : GS := if overB used words g.T then afterG l t d g live words else g
def pressB (g : GS) : Bool := decide (g.T / 2 < g.b)
/-- Granted, collects, forced. -/
def grantB (l : Int) (g : GS) (used live words : Int) : Bool := if overB used words g.T then !overB live words l else true
def forceB (l : Int) (g : GS) (used live words : Int) : Bool := if overB used words g.T then pressB g || overB live words l else false
theorem afterG_ok (l t d : Int) (g : GS) (live words : Int) (hl : 0 ≤ l) (ht : 0 ≤ t) (htl : t ≤ l) (hd : 0 ≤ d) (h : g.ok l d) : (afterG l t d g live words).ok l d := by
  have h1 := step_bd l t d (g.T, g.q) (needOf l live words) ht htl hd ⟨h.1, h.2.1, h.2.2.1, h.2.2.2.1⟩
  have h2 := needOf_bd l live words hl
  exact ⟨h1.1, h1.2.1, h1.2.2.1, h1.2.2.2, h2.1, h2.2⟩
theorem judgeG_ok (l t d : Int) (g : GS) (used live words : Int) (hl : 0 ≤ l) (ht : 0 ≤ t) (htl : t ≤ l) (hd : 0 ≤ d) (h : g.ok l d) : (judgeG l t d g used live words).ok l d := by
  unfold judgeG
  split
  · exact afterG_ok l t d g live words hl ht htl hd h
  · exact h
theorem afterG_base (l t d : Int) (g : GS) (live words : Int) (hl : 0 ≤ l) (ht : 0 ≤ t) (htl : t ≤ l) (h : g.ok l d) : (afterG l t d g live words).b ≤ (afterG l t d g live words).T := by
  have h1 := step_law l t d (g.T, g.q) (needOf l live words) hl ht htl ⟨h.1, h.2.1, h.2.2.1, h.2.2.2.1⟩
  have h2 := needOf_bd l live words hl
  have h3 := h1.2.2.2.1
  show needOf l live words ≤ nextT l t d g.T g.q (needOf l live words)
  have h4 : (step l t d (g.T, g.q) (needOf l live words)).1 = nextT l t d g.T g.q (needOf l live words) := rfl
  omega
theorem judgeG_base (l t d : Int) (g : GS) (used live words : Int) (hl : 0 ≤ l) (ht : 0 ≤ t) (htl : t ≤ l) (h : g.ok l d) (hb : g.b ≤ g.T) : (judgeG l t d g used live words).b ≤ (judgeG l t d g used live words).T := by
  unfold judgeG
  split
  · exact afterG_base l t d g live words hl ht htl h
  · exact hb
/-- What is said of a request, in its few forms. -/
theorem judge_forms (l : Int) (g : GS) (used live words : Int) (hu : 0 ≤ used) (hw : 0 ≤ words) :
    (overB used words g.T = false ∧ grantB l g used live words = true ∧ forceB l g used live words = false) ∨
    (overB used words g.T = true ∧ forceB l g used live words = true) ∨
    (overB used words g.T = true ∧ forceB l g used live words = false ∧ grantB l g used live words = true ∧ 2 * g.b < used + words) := by
  cases h : overB used words g.T with
  | false => exact .inl ⟨rfl, by simp [grantB, h], by simp [forceB, h]⟩
  | true =>
    have h1 := (overB_iff _ _ _).1 h
    cases h2 : pressB g with
    | true => exact .inr (.inl ⟨rfl, by simp [forceB, h, h2]⟩)
    | false =>
      cases h3 : overB live words l with
      | true => exact .inr (.inl ⟨rfl, by simp [forceB, h, h3]⟩)
      | false =>
        refine .inr (.inr ⟨rfl, by simp [forceB, h, h2, h3], by simp [grantB, h, h3], ?_⟩)
        have h4 : ¬ g.T / 2 < g.b := of_decide_eq_false h2
        omega
end Go.Proofs.Ytlcaanodbhigkaa
