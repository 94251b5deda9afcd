/-
  The threshold of layer 26 in plain numbers: what is wanted, what comes next, what settles. No program here.
-/
import Derived.Lib.Hide
namespace Go.Proofs.Ytlcaanodbhigkaa
def want (l t n : Int) : Int := max t (min (2 * min (max n 0) l) l)
theorem want_bd (l t n : Int) (ht : 0 ≤ t) (htl : t ≤ l) : 0 ≤ want l t n ∧ want l t n ≤ l := by unfold want; omega
def nextT (l t d T q n : Int) : Int := if T < want l t n then want l t n else if T / 2 < want l t n then T else if q ≥ d then max (want l t n) (T / 2) else T
def nextQ (l t d T q n : Int) : Int := if T < want l t n then 0 else if T / 2 < want l t n then 0 else if q ≥ d then 0 else q + 1

def step (l t d : Int) (s : Int × Int) (n : Int) : Int × Int := (nextT l t d s.1 s.2 n, nextQ l t d s.1 s.2 n)
def run (l t d : Int) (zs : List Int) : Int × Int := zs.foldl (step l t d) (t, 0)
theorem run_snoc (l t d : Int) (zs : List Int) (n : Int) : run l t d (zs ++ [n]) = step l t d (run l t d zs) n := by simp [run]
theorem step_bd (l t d : Int) (s : Int × Int) (n : Int) (ht : 0 ≤ t) (htl : t ≤ l) (hd : 0 ≤ d) (h : 0 ≤ s.1 ∧ s.1 ≤ l ∧ 0 ≤ s.2 ∧ s.2 ≤ d) :
    0 ≤ (step l t d s n).1 ∧ (step l t d s n).1 ≤ l ∧ 0 ≤ (step l t d s n).2 ∧ (step l t d s n).2 ≤ d := by
  have := want_bd l t n ht htl
  simp only [step, nextT, nextQ]
  refine ⟨?_, ?_, ?_, ?_⟩ <;> (repeat' split) <;> omega
theorem run_bd (l t d : Int) (zs : List Int) (ht : 0 ≤ t) (htl : t ≤ l) (hd : 0 ≤ d) :
    0 ≤ (run l t d zs).1 ∧ (run l t d zs).1 ≤ l ∧ 0 ≤ (run l t d zs).2 ∧ (run l t d zs).2 ≤ d := by
  suffices H : ∀ s : Int × Int, (0 ≤ s.1 ∧ s.1 ≤ l ∧ 0 ≤ s.2 ∧ s.2 ≤ d) → 0 ≤ (zs.foldl (step l t d) s).1 ∧ (zs.foldl (step l t d) s).1 ≤ l ∧ 0 ≤ (zs.foldl (step l t d) s).2 ∧ (zs.foldl (step l t d) s).2 ≤ d from
    H (t, 0) ⟨ht, htl, Int.le_refl _, hd⟩
  induction zs with
  | nil => intro s h; exact h
  | cons z zs ih => intro s h; exact ih _ (step_bd l t d s z ht htl hd h)

/-- Which settings may be. -/
def rightB (l t d : Int) : Bool := decide (16 ≤ l ∧ l ≤ 1048576 ∧ 0 ≤ t ∧ t ≤ l ∧ 0 ≤ d ∧ d ≤ 16)
theorem right_iff {l t d : Int} : rightB l t d = true ↔ 16 ≤ l ∧ l ≤ 1048576 ∧ 0 ≤ t ∧ t ≤ l ∧ 0 ≤ d ∧ d ≤ 16 := decide_eq_true_iff
theorem right_not {l t d : Int} : rightB l t d = false ↔ ¬ (16 ≤ l ∧ l ≤ 1048576 ∧ 0 ≤ t ∧ t ≤ l ∧ 0 ≤ d ∧ d ≤ 16) := decide_eq_false_iff_not
theorem step_law (l t d : Int) (s : Int × Int) (n : Int) (hl : 0 ≤ l) (ht : 0 ≤ t) (htl : t ≤ l) (h : 0 ≤ s.1 ∧ s.1 ≤ l ∧ 0 ≤ s.2 ∧ s.2 ≤ d) :
    t ≤ (step l t d s n).1 ∧ min (2 * min (max n 0) l) l ≤ (step l t d s n).1 ∧ (step l t d s n).1 ≤ l ∧ min (max n 0) l ≤ (step l t d s n).1 ∧ 0 ≤ (step l t d s n).2 ∧ (step l t d s n).2 ≤ d := by
  simp only [step, nextT, nextQ, want]
  refine ⟨?_, ?_, ?_, ?_, ?_, ?_⟩ <;> (repeat' split) <;> omega

/-- Where every collection needs the same: settled, or on the way there. -/
def Settled (w T : Int) : Prop := (w = 0 ∧ T = 0) ∨ (0 < w ∧ T / 2 < w)
def OnWay (w l d : Int) (j : Nat) (T q : Int) : Prop := 0 ≤ w ∧ w ≤ T ∧ T ≤ l ∧ 0 ≤ q ∧ q ≤ d ∧ (Settled w T ∨ ∃ e : Nat, T < 2 ^ e ∧ 17 * (e : Int) + j ≤ 357 + q)
theorem onWay_start (w l d T q : Int) (h : 0 ≤ w ∧ w ≤ T ∧ T ≤ l ∧ 0 ≤ q ∧ q ≤ d) (hl : l ≤ 1048576) : OnWay w l d 0 T q :=
  ⟨h.1, h.2.1, h.2.2.1, h.2.2.2.1, h.2.2.2.2, .inr ⟨21, Int.lt_of_le_of_lt (by omega : T ≤ 1048576) (by decide), by omega⟩⟩
theorem onWay_step (l t d n : Int) (j : Nat) (T q : Int) (ht : 0 ≤ t) (htl : t ≤ l) (hd : d ≤ 16) (h : OnWay (want l t n) l d j T q) :
    OnWay (want l t n) l d (j + 1) (nextT l t d T q n) (nextQ l t d T q n) ∧ nextT l t d T q n ≤ T ∧ want l t n ≤ nextT l t d T q n := by
  have hw := want_bd l t n ht htl
  obtain ⟨h1, h2, h3, h4, h5, h6⟩ := h
  unfold nextT nextQ
  have h0 : ¬ T < want l t n := by omega
  rw [if_neg h0, if_neg h0]
  by_cases hc : T / 2 < want l t n
  · rw [if_pos hc, if_pos hc]
    exact ⟨⟨h1, h2, h3, by omega, by omega, .inl (.inr ⟨by omega, hc⟩)⟩, by omega, by omega⟩
  · rw [if_neg hc, if_neg hc]
    by_cases hq : q ≥ d
    · rw [if_pos hq, if_pos hq]
      have e1 : max (want l t n) (T / 2) = T / 2 := by omega
      rw [e1]
      refine ⟨⟨h1, by omega, by omega, by omega, by omega, ?_⟩, by omega, by omega⟩
      rcases h6 with h6 | ⟨e, he, hj⟩
      · rcases h6 with ⟨a, b⟩ | ⟨a, b⟩
        · exact .inl (.inl ⟨a, by omega⟩)
        · omega
      · cases e with
        | zero => exact .inl (.inl ⟨by simp at he; omega, by simp at he; omega⟩)
        | succ e =>
          rw [Int.pow_succ] at he
          exact .inr ⟨e, by omega, by omega⟩
    · rw [if_neg hq, if_neg hq]
      refine ⟨⟨h1, h2, h3, by omega, by omega, ?_⟩, by omega, by omega⟩
      rcases h6 with h6 | ⟨e, he, hj⟩
      · exact .inl h6
      · exact .inr ⟨e, he, by omega⟩
theorem next_settled (l t d T q n : Int) (h1 : want l t n ≤ T) (h2 : T / 2 < want l t n) : nextT l t d T q n = T ∧ nextQ l t d T q n = 0 := by
  have h0 : ¬ T < want l t n := by omega
  unfold nextT nextQ
  rw [if_neg h0, if_neg h0, if_pos h2, if_pos h2]
  exact ⟨rfl, rfl⟩
theorem onWay_end (w l d T q : Int) (hd : d ≤ 16) (h : OnWay w l d 374 T q) : Settled w T := by
  obtain ⟨h1, h2, h3, h4, h5, h6 | ⟨e, he, hj⟩⟩ := h
  · exact h6
  · omega
end Go.Proofs.Ytlcaanodbhigkaa
