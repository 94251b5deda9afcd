/-
  Slices of flat structs that came in, column by column.
-/
import Derived.Test.YtanfjgkohhlcoaaArg
namespace Go.Proofs.Ytanfjgkohhlcoaa
open Go Go.ChangeShapes Go.WideShapes Go.ChangeAt Go.RowKit Go.Deep
/-- The kind of a column. -/
inductive CK where
  | i (k : IntKind)
  | b
def CK.under : CK → TypeDesc → Bool
  | .i k, .int k' => decide (k = k')
  | .b, .bool => true
  | _, _ => false
def CK.val : CK → Value → Prop
  | .i k, v => ∃ z, v = .int k z ∧ (Lit.int k z).wf = true
  | .b, v => ∃ z, v = .bool z
def CK.fits : CK → Nat → Col → Prop
  | .i k, n, cl => ∃ zs, cl = .ints k zs ∧ zs.length = n ∧ ∀ j, j < n → (Lit.int k (zs.getD j 0)).wf = true
  | .b, n, cl => ∃ zs, cl = .bools zs ∧ zs.length = n
def Fits (n : Nat) : List CK → List Col → Prop
  | [], cs => cs = []
  | k :: ks, cs => ∃ cl r, cs = cl :: r ∧ k.fits n cl ∧ Fits n ks r
theorem col_of (k : CK) (n : Nat) (cell : Nat → Option Value) (h : ∀ j, j < n → ∃ v, cell j = some v ∧ k.val v) : ∃ cl : Col, k.fits n cl ∧ (n = 0 → ∀ r, (cl.at r).2 = false) ∧ ∀ r v, cl.at r = (.val v, true) → cell r = some v := by
  cases k with
  | i k =>
    obtain ⟨zs, hl, hz⟩ := lists_of (0 : Int) (p := fun j z => cell j = some (.int k z) ∧ (Lit.int k z).wf = true) n fun j hj => by
      obtain ⟨v, h1, z, rfl, h2⟩ := h j hj
      exact ⟨z, h1, h2⟩
    refine ⟨.ints k zs, ⟨zs, rfl, hl, fun j hj => (hz j hj).2⟩, fun h0 r => by simp [Col.at]; omega, fun r v hv => ?_⟩
    simp only [Col.at, Prod.mk.injEq, AV.val.injEq, decide_eq_true_eq] at hv
    obtain ⟨rfl, hr⟩ := hv
    exact (hz r (by omega)).1
  | b =>
    obtain ⟨zs, hl, hz⟩ := lists_of false (p := fun j z => cell j = some (.bool z)) n fun j hj => by
      obtain ⟨v, h1, z, rfl⟩ := h j hj
      exact ⟨z, h1⟩
    refine ⟨.bools zs, ⟨zs, rfl, hl⟩, fun h0 r => by simp [Col.at]; omega, fun r v hv => ?_⟩
    simp only [Col.at, Prod.mk.injEq, AV.val.injEq, decide_eq_true_eq] at hv
    obtain ⟨rfl, hr⟩ := hv
    exact hz r (by omega)
theorem cols_of (n : Nat) : ∀ (ks : List CK) (cell : Nat → Nat → Option Value), (∀ c k, ks[c]? = some k → ∀ j, j < n → ∃ v, cell j c = some v ∧ k.val v) →
    ∃ cs : List Col, cs.length = ks.length ∧ Fits n ks cs ∧ (n = 0 → ∀ (c : Nat) (cl : Col) (r : Nat), cs[c]? = some cl → (cl.at r).2 = false) ∧ ∀ (c : Nat) (cl : Col) (r : Nat) (v : Value), cs[c]? = some cl → cl.at r = (.val v, true) → cell r c = some v
  | [], _, _ => ⟨[], rfl, rfl, fun _ c cl r h => by simp at h, fun c cl r v h => by simp at h⟩
  | k :: ks, cell, h => by
    obtain ⟨cl, h1, h2, h3⟩ := col_of k n (fun j => cell j 0) (fun j hj => h 0 k rfl j hj)
    obtain ⟨cs, g1, g2, g3, g4⟩ := cols_of n ks (fun j c => cell j (c + 1)) (fun c k hk j hj => h (c + 1) k (by simpa using hk) j hj)
    refine ⟨cl :: cs, by simp [g1], ⟨cl, cs, rfl, h1, g2⟩, fun h0 c d r hc => ?_, fun c d r v hc hv => ?_⟩
    · cases c with
      | zero => simp at hc; subst hc; exact h2 h0 r
      | succ c => exact g3 h0 c d r (by simpa using hc)
    · cases c with
      | zero => simp at hc; subst hc; exact h3 r v hv
      | succ c => exact g4 c d r v (by simpa using hc) hv
def fieldsAre (P : Program) : List Field → List CK → Bool
  | [], [] => true
  | f :: fs, k :: ks => (match P.underlying f.type with
    | some u => k.under u
    | none => false) && fieldsAre P fs ks
  | _, _ => false
theorem fields_at {P : Program} : ∀ {fs : List Field} {ks : List CK}, fieldsAre P fs ks = true → fs.length = ks.length ∧ ∀ (c : Nat) k, ks[c]? = some k → ∃ f u, fs[c]? = some f ∧ P.underlying f.type = some u ∧ k.under u = true
  | [], [], _ => ⟨rfl, fun c k h => by simp at h⟩
  | [], _ :: _, h => by simp [fieldsAre] at h
  | _ :: _, [], h => by simp [fieldsAre] at h
  | f :: fs, k :: ks, h => by
    simp only [fieldsAre, Bool.and_eq_true] at h
    obtain ⟨h1, h2⟩ := h
    obtain ⟨g1, g2⟩ := fields_at h2
    refine ⟨by simp [g1], fun c k' hk => ?_⟩
    cases c with
    | zero =>
      simp at hk
      subst hk
      cases hu : P.underlying f.type with
      | none => rw [hu] at h1; cases h1
      | some u => rw [hu] at h1; exact ⟨f, u, rfl, hu, h1⟩
    | succ c =>
      obtain ⟨f', u, hf, hu, hk'⟩ := g2 c k' (by simpa using hk)
      exact ⟨f', u, by simpa using hf, hu, hk'⟩
set_option maxRecDepth 100000 in
/-- A slice of flat structs came in. -/
theorem open_rows {H : Type} {enc : TypeId × Value → H} {w : World} {base : Nat} {held : Bool} {r : Reach} {b0 : Nat} {v : Value} {d : DataW H} {ps : List MemPlace} {t e : TypeId} {fs : Array Field} (ks : List CK)
    (ht : Try.prog.underlying t = some (.slice e)) (he : Try.prog.underlying e = some (.struct fs)) (hone : oneCellFields Try.prog fs = true) (hC : Try.prog.cellsOf e = fs.size) (hpos : 0 < fs.size) (hks : fieldsAre Try.prog fs.toList ks = true)
    (hval : Value.okWide Try.prog w r b0 t v) (h : DataW.Trod enc Try.prog w base (fun _ => true) held t v d ps) :
    ∃ (A : Option Addr) (n c : Nat) (cs : List Col) (i : LI), v = .slice A n c ∧ n ≤ c ∧ c ≤ 9223372036854775807 ∧ Fits n ks cs ∧ InB w A n (.rows cs) i := by
  obtain ⟨A, n, c, rfl, h1, h2, h3⟩ := open_structs ht he hone hC hpos hval h
  obtain ⟨hl, hat⟩ := fields_at hks
  have hsz : fs.size = ks.length := by simpa using hl
  have hrow : ∀ (b o : Nat), (∀ i, i < n → ∀ (j : Nat) (f : Field), fs[j]? = some f → ∃ u, w.cell? ⟨b, o + (i * fs.size + j), none⟩ = some u ∧ ∃ m y, DataW.trod enc Try.prog w base (fun _ => true) held m f.type [u] = some y) →
      ∀ c k, ks[c]? = some k → ∀ j, j < n → ∃ v, w.cell? ⟨b, o + (j * ks.length + c), none⟩ = some v ∧ k.val v := fun b o hi c k hk j hj => by
    obtain ⟨f, u, hf, hu, hku⟩ := hat c k hk
    obtain ⟨x, hx, hx2⟩ := hi j hj c f (by simpa using hf)
    rw [hsz] at hx
    refine ⟨x, hx, ?_⟩
    cases k with
    | i k =>
      cases u <;> simp only [CK.under] at hku <;> try cases hku
      rename_i k'
      have := of_decide_eq_true hku
      subst this
      exact field_int hu hx2
    | b =>
      cases u <;> simp only [CK.under] at hku <;> try cases hku
      exact field_bool hu hx2
  have hc : c ≤ 9223372036854775807 := by unfold maxLen at h2; omega
  by_cases hn : 0 < n
  · obtain ⟨b, o, e, hb, hi⟩ := h3 hn
    obtain ⟨cs, g1, g2, g3, g4⟩ := cols_of n ks (fun j c => w.cell? ⟨b, o + (j * ks.length + c), none⟩) (hrow b o hi)
    obtain ⟨i, hin⟩ := in_rows (w := w) (A := A) (n := n) (cs := cs) (fun h => by omega) (fun _ => ⟨b, o, e, hb, fun c cl r v hc hv => by
      have := g4 c cl r v hc hv
      rw [← g1] at this
      exact this⟩)
    exact ⟨A, n, c, cs, i, rfl, h1, hc, g2, hin⟩
  · have h0 : n = 0 := by omega
    obtain ⟨cs, g1, g2, g3, _⟩ := cols_of n ks (fun _ _ => none) (fun c k _ j hj => by omega)
    obtain ⟨i, hin⟩ := in_rows (w := w) (A := A) (n := n) (cs := cs) (fun h => g3 h) (fun h => absurd h hn)
    exact ⟨A, n, c, cs, i, rfl, h1, hc, g2, hin⟩
end Go.Proofs.Ytanfjgkohhlcoaa
