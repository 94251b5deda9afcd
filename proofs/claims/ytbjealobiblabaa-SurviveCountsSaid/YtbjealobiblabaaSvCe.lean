/-
  What the program's functions hand back.
-/
import Derived.Test.YtbjealobiblabaaSvCd
namespace Go.Proofs.Ytbjealobiblabaa
open Go Go.ChangeShapes Go.WideShapes Go.ChangeAt Go.RowKit Go.Deep
/-- The kind of a column. -/
inductive CK where
  | i (k : IntKind)
  | b
def CK.under : CK → TypeDesc → Bool
  | .i k, .int k' => decide (k = k')
  | .b, .bool => true
  | _, _ => false
def CK.val : CK → Value → Prop
  | .i k, v => ∃ z, v = .int k z ∧ (Lit.int k z).wf = true
  | .b, v => ∃ z, v = .bool z
def CK.fits : CK → Nat → Col → Prop
  | .i k, n, cl => ∃ zs, cl = .ints k zs ∧ zs.length = n ∧ ∀ j, j < n → (Lit.int k (zs.getD j 0)).wf = true
  | .b, n, cl => ∃ zs, cl = .bools zs ∧ zs.length = n
def Fits (n : Nat) : List CK → List Col → Prop
  | [], cs => cs = []
  | k :: ks, cs => ∃ cl r, cs = cl :: r ∧ k.fits n cl ∧ Fits n ks r
theorem col_of (k : CK) (n : Nat) (cell : Nat → Option Value) (h : ∀ j, j < n → ∃ v, cell j = some v ∧ k.val v) : ∃ cl : Col, k.fits n cl ∧ (n = 0 → ∀ r, (cl.at r).2 = false) ∧ ∀ r v, cl.at r = (.val v, true) → cell r = some v := by
  cases k with
  | i k =>
    obtain ⟨zs, hl, hz⟩ := lists_of (0 : Int) (p := fun j z => cell j = some (.int k z) ∧ (Lit.int k z).wf = true) n fun j hj => by
      obtain ⟨v, h1, z, rfl, h2⟩ := h j hj
      exact ⟨z, h1, h2⟩
    refine ⟨.ints k zs, ⟨zs, rfl, hl, fun j hj => (hz j hj).2⟩, fun h0 r => by simp [Col.at]; omega, fun r v hv => ?_⟩
    simp only [Col.at, Prod.mk.injEq, AV.val.injEq, decide_eq_true_eq] at hv
    obtain ⟨rfl, hr⟩ := hv
    exact (hz r (by omega)).1
  | b =>
    obtain ⟨zs, hl, hz⟩ := lists_of false (p := fun j z => cell j = some (.bool z)) n fun j hj => by
      obtain ⟨v, h1, z, rfl⟩ := h j hj
      exact ⟨z, h1⟩
    refine ⟨.bools zs, ⟨zs, rfl, hl⟩, fun h0 r => by simp [Col.at]; omega, fun r v hv => ?_⟩
    simp only [Col.at, Prod.mk.injEq, AV.val.injEq, decide_eq_true_eq] at hv
    obtain ⟨rfl, hr⟩ := hv
    exact hz r (by omega)
theorem cols_of (n : Nat) : ∀ (ks : List CK) (cell : Nat → Nat → Option Value), (∀ c k, ks[c]? = some k → ∀ j, j < n → ∃ v, cell j c = some v ∧ k.val v) →
    ∃ cs : List Col, cs.length = ks.length ∧ Fits n ks cs ∧ (n = 0 → ∀ (c : Nat) (cl : Col) (r : Nat), cs[c]? = some cl → (cl.at r).2 = false) ∧ ∀ (c : Nat) (cl : Col) (r : Nat) (v : Value), cs[c]? = some cl → cl.at r = (.val v, true) → cell r c = some v
  | [], _, _ => ⟨[], rfl, rfl, fun _ c cl r h => by simp at h, fun c cl r v h => by simp at h⟩
  | k :: ks, cell, h => by
    obtain ⟨cl, h1, h2, h3⟩ := col_of k n (fun j => cell j 0) (fun j hj => h 0 k rfl j hj)
    obtain ⟨cs, g1, g2, g3, g4⟩ := cols_of n ks (fun j c => cell j (c + 1)) (fun c k hk j hj => h (c + 1) k (by simpa using hk) j hj)
    refine ⟨cl :: cs, by simp [g1], ⟨cl, cs, rfl, h1, g2⟩, fun h0 c d r hc => ?_, fun c d r v hc hv => ?_⟩
    · cases c with
      | zero => simp at hc; subst hc; exact h2 h0 r
      | succ c => exact g3 h0 c d r (by simpa using hc)
    · cases c with
      | zero => simp at hc; subst hc; exact h3 r v hv
      | succ c => exact g4 c d r v (by simpa using hc) hv
def fieldsAre (P : Program) : List Field → List CK → Bool
  | [], [] => true
  | f :: fs, k :: ks => (match P.underlying f.type with
    | some u => k.under u
    | none => false) && fieldsAre P fs ks
  | _, _ => false
theorem fields_at {P : Program} : ∀ {fs : List Field} {ks : List CK}, fieldsAre P fs ks = true → fs.length = ks.length ∧ ∀ (c : Nat) k, ks[c]? = some k → ∃ f u, fs[c]? = some f ∧ P.underlying f.type = some u ∧ k.under u = true
  | [], [], _ => ⟨rfl, fun c k h => by simp at h⟩
  | [], _ :: _, h => by simp [fieldsAre] at h
  | _ :: _, [], h => by simp [fieldsAre] at h
  | f :: fs, k :: ks, h => by
    simp only [fieldsAre, Bool.and_eq_true] at h
    obtain ⟨h1, h2⟩ := h
    obtain ⟨g1, g2⟩ := fields_at h2
    refine ⟨by simp [g1], fun c k' hk => ?_⟩
    cases c with
    | zero =>
      simp at hk
      subst hk
      cases hu : P.underlying f.type with
      | none => rw [hu] at h1; cases h1
      | some u => rw [hu] at h1; exact ⟨f, u, rfl, hu, h1⟩
    | succ c =>
      obtain ⟨f', u, hf, hu, hk'⟩ := g2 c k' (by simpa using hk)
      exact ⟨f', u, by simpa using hf, hu, hk'⟩
set_option maxRecDepth 100000 in
/-- A slice of flat structs came in. -/
theorem open_rows {H : Type} {enc : TypeId × Value → H} {w : World} {base : Nat} {held : Bool} {r : Reach} {b0 : Nat} {v : Value} {d : DataW H} {ps : List MemPlace} {t e : TypeId} {fs : Array Field} (ks : List CK)
    (ht : Try.prog.underlying t = some (.slice e)) (he : Try.prog.underlying e = some (.struct fs)) (hone : oneCellFields Try.prog fs = true) (hC : Try.prog.cellsOf e = fs.size) (hpos : 0 < fs.size) (hks : fieldsAre Try.prog fs.toList ks = true)
    (hval : Value.okWide Try.prog w r b0 t v) (h : DataW.Trod enc Try.prog w base (fun _ => true) held t v d ps) :
    ∃ (A : Option Addr) (n c : Nat) (cs : List Col) (i : LI), v = .slice A n c ∧ n ≤ c ∧ c ≤ 9223372036854775807 ∧ Fits n ks cs ∧ InB w A n (.rows cs) i := by
  obtain ⟨A, n, c, rfl, h1, h2, h3⟩ := open_structs ht he hone hC hpos hval h
  obtain ⟨hl, hat⟩ := fields_at hks
  have hsz : fs.size = ks.length := by simpa using hl
  have hrow : ∀ (b o : Nat), (∀ i, i < n → ∀ (j : Nat) (f : Field), fs[j]? = some f → ∃ u, w.cell? ⟨b, o + (i * fs.size + j), none⟩ = some u ∧ ∃ m y, DataW.trod enc Try.prog w base (fun _ => true) held m f.type [u] = some y) →
      ∀ c k, ks[c]? = some k → ∀ j, j < n → ∃ v, w.cell? ⟨b, o + (j * ks.length + c), none⟩ = some v ∧ k.val v := fun b o hi c k hk j hj => by
    obtain ⟨f, u, hf, hu, hku⟩ := hat c k hk
    obtain ⟨x, hx, hx2⟩ := hi j hj c f (by simpa using hf)
    rw [hsz] at hx
    refine ⟨x, hx, ?_⟩
    cases k with
    | i k =>
      cases u <;> simp only [CK.under] at hku <;> try cases hku
      rename_i k'
      have := of_decide_eq_true hku
      subst this
      exact field_int hu hx2
    | b =>
      cases u <;> simp only [CK.under] at hku <;> try cases hku
      exact field_bool hu hx2
  have hc : c ≤ 9223372036854775807 := by unfold maxLen at h2; omega
  by_cases hn : 0 < n
  · obtain ⟨b, o, e, hb, hi⟩ := h3 hn
    obtain ⟨cs, g1, g2, g3, g4⟩ := cols_of n ks (fun j c => w.cell? ⟨b, o + (j * ks.length + c), none⟩) (hrow b o hi)
    obtain ⟨i, hin⟩ := in_rows (w := w) (A := A) (n := n) (cs := cs) (fun h => by omega) (fun _ => ⟨b, o, e, hb, fun c cl r v hc hv => by
      have := g4 c cl r v hc hv
      rw [← g1] at this
      exact this⟩)
    exact ⟨A, n, c, cs, i, rfl, h1, hc, g2, hin⟩
  · have h0 : n = 0 := by omega
    obtain ⟨cs, g1, g2, g3, _⟩ := cols_of n ks (fun _ _ => none) (fun c k _ j hj => by omega)
    obtain ⟨i, hin⟩ := in_rows (w := w) (A := A) (n := n) (cs := cs) (fun h => g3 h) (fun h => absurd h hn)
    exact ⟨A, n, c, cs, i, rfl, h1, hc, g2, hin⟩
end Go.Proofs.Ytbjealobiblabaa

namespace Go.Proofs.Ytbjealobiblabaa
open Go Go.ChangeShapes Go.WideShapes Go.ChangeAt Go.RowKit Go.Deep
theorem list_cons {α : Type} {l : List α} {n : Nat} (h : l.length = n + 1) : ∃ a r, l = a :: r ∧ r.length = n := by
  cases l with
  | nil => cases h
  | cons a r => exact ⟨a, r, rfl, by simpa using h⟩
theorem list_nil {α : Type} {l : List α} (h : l.length = 0) : l = [] := List.eq_nil_of_length_eq_zero h
def repL {α : Type} : Nat → List α → List α
  | 0, _ => []
  | n + 1, l => l ++ repL n l
def leavesF (P : Program) (rec : TypeId → Option (List TypeId)) : List Field → Nat → Option (List TypeId)
  | [], _ => some []
  | f :: fs, off => match rec f.type with
    | some l => match Nat.beq f.offset off && Nat.beq l.length (P.cellsOf f.type) with
      | true => match leavesF P rec fs (off + l.length) with
        | some r => some (l ++ r)
        | none => none
      | false => none
    | none => none
def leavesT (P : Program) : Nat → TypeId → Option (List TypeId)
  | 0, _ => none
  | d + 1, t => match P.underlying t with
    | some (.struct fs) => leavesF P (leavesT P d) fs.toList 0
    | some (.array n e) => match leavesT P d e with
      | some l => match Nat.beq l.length (P.cellsOf e) with
        | true => some (repL n l)
        | false => none
      | none => none
    | some _ => some [t]
    | none => none
section
variable {H : Type} {enc : TypeId × Value → H} {P : Program} {w : World} {base : Nat} {spare : Nat → Bool} {held : Bool}
abbrev LeafOk (enc : TypeId × Value → H) (P : Program) (w : World) (base : Nat) (spare : Nat → Bool) (held : Bool) (ls : List TypeId) (cs : List Value) : Prop :=
  ∀ (j : Nat) (τ : TypeId) (u : Value), ls[j]? = some τ → cs[j]? = some u → ∃ m y, DataW.trod enc P w base spare held m τ [u] = some y
theorem repL_get {α : Type} {l : List α} : ∀ (n j : Nat) (x : α), (repL n l)[j]? = some x → ∃ i k, i < n ∧ j = i * l.length + k ∧ l[k]? = some x
  | 0, j, x, h => by simp [repL] at h
  | n + 1, j, x, h => by
    simp only [repL] at h
    by_cases hj : j < l.length
    · rw [List.getElem?_append_left hj] at h
      exact ⟨0, j, by omega, by omega, h⟩
    · rw [List.getElem?_append_right (by omega)] at h
      obtain ⟨i, k, h1, h2, h3⟩ := repL_get n _ x h
      refine ⟨i + 1, k, by omega, ?_, h3⟩
      rw [Nat.add_mul]
      omega
theorem leavesF_get {rec : TypeId → Option (List TypeId)} : ∀ (fs : List Field) (off : Nat) (ls : List TypeId) (j : Nat) (τ : TypeId), leavesF P rec fs off = some ls → ls[j]? = some τ →
    ∃ (i : Nat) (f : Field) (l : List TypeId) (k : Nat), fs[i]? = some f ∧ rec f.type = some l ∧ l[k]? = some τ ∧ off + j = f.offset + k ∧ l.length = P.cellsOf f.type
  | [], off, ls, j, τ, h, hj => by cases h; simp at hj
  | f :: fs, off, ls, j, τ, h, hj => by
    simp only [leavesF] at h
    cases hr : rec f.type with
    | none => rw [hr] at h; cases h
    | some l =>
      rw [hr] at h
      dsimp only at h
      split at h
      · rename_i hc
        simp only [Bool.and_eq_true] at hc
        have h1 := Nat.eq_of_beq_eq_true hc.1
        have h2 := Nat.eq_of_beq_eq_true hc.2
        cases hr2 : leavesF P rec fs (off + l.length) with
        | none => rw [hr2] at h; cases h
        | some r =>
          rw [hr2] at h
          cases h
          by_cases hjl : j < l.length
          · rw [List.getElem?_append_left hjl] at hj
            exact ⟨0, f, l, j, rfl, hr, hj, by omega, h2⟩
          · rw [List.getElem?_append_right (by omega)] at hj
            obtain ⟨i, f', l', k, g1, g2, g3, g4, g5⟩ := leavesF_get fs _ r _ τ hr2 hj
            exact ⟨i + 1, f', l', k, by simpa using g1, g2, g3, by omega, g5⟩
      · cases h
theorem take_at {α : Type} {l : List α} {o c k : Nat} {u : α} (hk : k < c) (h : l[o + k]? = some u) : ((l.drop o).take c)[k]? = some u := by
  rw [List.getElem?_take_of_lt hk, List.getElem?_drop]
  exact h
theorem leaf_ok : ∀ (d : Nat) (t : TypeId) (ls : List TypeId) (n : Nat) (cs : List Value) (y : DataW H × List MemPlace), leavesT P d t = some ls → ls.length = P.cellsOf t → cs.length = P.cellsOf t → DataW.trod enc P w base spare held n t cs = some y → LeafOk enc P w base spare held ls cs
  | 0, t, ls, n, cs, y, h, _, _, _ => by cases h
  | d + 1, t, ls, n, cs, y, h, hlen, hcl, ht => by
    intro j τ u hj hu
    simp only [leavesT] at h
    have leaf : ls = [t] → ∃ m y, DataW.trod enc P w base spare held m τ [u] = some y := fun e => by
      subst e
      cases j with
      | succ j => simp at hj
      | zero =>
        simp at hj
        subst hj
        have : cs = [u] := by
          match cs, hcl.trans hlen.symm, hu with
          | [x], _, hu => simpa using hu
        subst this
        exact ⟨n, y, ht⟩
    cases hu' : P.underlying t with
    | none => rw [hu'] at h; cases h
    | some ty =>
      rw [hu'] at h
      cases ty with
      | struct fs =>
        dsimp only at h
        obtain ⟨xs, m, _, _, _, hl2, hg⟩ := DataW.trod_struct hu' ht
        obtain ⟨i, f, l, k, g1, g2, g3, g4, g5⟩ := leavesF_get fs.toList 0 ls j τ h hj
        have hf : fs[i]? = some f := by simpa using g1
        have h1 := hg i f hf
        have hil : i < fs.size := (Array.getElem?_eq_some_iff.1 hf).1
        have hx : xs[i]? = some (xs[i]'(by omega)) := List.getElem?_eq_getElem (by omega)
        have hk : k < P.cellsOf f.type := by rw [← g5]; exact (List.getElem?_eq_some_iff.1 g3).1
        have hut := take_at (c := P.cellsOf f.type) hk (show cs[f.offset + k]? = some u by rw [← g4, Nat.zero_add]; exact hu)
        have hfit : f.offset + P.cellsOf f.type ≤ cs.length := by
          have hend : ∀ (fs : List Field) (off : Nat) (ls : List TypeId), leavesF P (leavesT P d) fs off = some ls → ∀ f ∈ fs, f.offset + P.cellsOf f.type ≤ off + ls.length := by
            intro fs
            induction fs with
            | nil => intro off ls h f hf; cases hf
            | cons f0 fs ih =>
              intro off ls h f hf
              simp only [leavesF] at h
              cases hr : leavesT P d f0.type with
              | none => rw [hr] at h; cases h
              | some l0 =>
                rw [hr] at h
                dsimp only at h
                split at h
                · rename_i hc
                  simp only [Bool.and_eq_true] at hc
                  have h1 := Nat.eq_of_beq_eq_true hc.1
                  have h2 := Nat.eq_of_beq_eq_true hc.2
                  cases hr2 : leavesF P (leavesT P d) fs (off + l0.length) with
                  | none => rw [hr2] at h; cases h
                  | some r =>
                    rw [hr2] at h
                    cases h
                    rw [List.length_append]
                    rcases List.mem_cons.1 hf with rfl | hf
                    · omega
                    · have := ih _ _ hr2 f hf
                      omega
                · cases h
          have := hend fs.toList 0 ls h f (List.mem_of_getElem? g1)
          omega
        exact leaf_ok d f.type l m _ _ g2 g5 (by rw [List.length_take, List.length_drop]; omega) (h1.trans hx) k τ u g3 hut
      | array n' e =>
        dsimp only at h
        cases hle : leavesT P d e with
        | none => rw [hle] at h; cases h
        | some l =>
          rw [hle] at h
          dsimp only at h
          split at h
          · rename_i hc
            have hc := Nat.eq_of_beq_eq_true hc
            cases h
            obtain ⟨xs, m, _, _, _, hl2, hg⟩ := DataW.trod_array hu' ht
            obtain ⟨i, k, g1, g2, g3⟩ := repL_get _ _ _ hj
            have h1 := hg i g1
            have hx : xs[i]? = some (xs[i]'(by omega)) := List.getElem?_eq_getElem (by omega)
            have hk : k < P.cellsOf e := by rw [← hc]; exact (List.getElem?_eq_some_iff.1 g3).1
            have hut := take_at (c := P.cellsOf e) hk (show cs[i * P.cellsOf e + k]? = some u by rw [← hc, ← g2]; exact hu)
            have hlr : ∀ n : Nat, (repL n l).length = n * l.length := fun n => by
              induction n with
              | zero => simp [repL]
              | succ n ih => simp only [repL, List.length_append, ih, Nat.add_mul]; omega
            have hfit : i * P.cellsOf e + P.cellsOf e ≤ cs.length := by
              rw [hcl, ← hlen, hlr, ← hc, ← Nat.succ_mul]
              exact Nat.mul_le_mul_right _ g1
            exact leaf_ok d e l m _ _ hle hc (by rw [List.length_take, List.length_drop]; omega) (h1.trans hx) k τ u g3 hut
          · cases h
      | _ => exact leaf (by cases h; rfl)
/-- A value of nested structs and arrays came in. -/
theorem open_flat {r : Reach} {b0 : Nat} {t : TypeId} {v : Value} {x : DataW H} {p : List MemPlace} {ls : List TypeId} {ty : TypeDesc} (hu : P.underlying t = some ty) (hag : (match ty with | .struct _ => true | .array _ _ => true | _ => false) = true) (hl : leavesT P 9 t = some ls) (hC : P.cellsOf t = ls.length)
    (hv : Value.okWide P w r b0 t v) (h : DataW.Trod enc P w base spare held t v x p) :
    ∃ l : List Value, v = .agg l.toArray ∧ l.length = ls.length ∧ LeafOk enc P w base spare held ls l := by
  have hsh : ∃ cs : Array Value, v = .agg cs ∧ cs.size = P.cellsOf t := by
    cases ty with
    | struct fs => exact okWide_struct hu hv
    | array n e => exact okWide_array hu hv
    | _ => cases hag
  obtain ⟨⟨l⟩, rfl, hsz⟩ := hsh
  have hsz : l.length = P.cellsOf t := hsz
  obtain ⟨fuel, hf⟩ := h
  have e2 : (Value.agg l.toArray).cells.toList = l := by simp [Value.cells]
  rw [e2] at hf
  exact ⟨l, rfl, by rw [hsz, hC], leaf_ok 9 t ls fuel l _ hl hC.symm hsz hf⟩
end
def leavesAre (P : Program) : List TypeId → List CK → Bool
  | [], [] => true
  | t :: ts, k :: ks => (match P.underlying t with
    | some u => k.under u
    | none => false) && leavesAre P ts ks
  | _, _ => false
theorem leaves_at {P : Program} : ∀ {ls : List TypeId} {ks : List CK}, leavesAre P ls ks = true → ls.length = ks.length ∧ ∀ (c : Nat) k, ks[c]? = some k → ∃ τ u, ls[c]? = some τ ∧ P.underlying τ = some u ∧ k.under u = true
  | [], [], _ => ⟨rfl, fun c k h => by simp at h⟩
  | [], _ :: _, h => by simp [leavesAre] at h
  | _ :: _, [], h => by simp [leavesAre] at h
  | f :: fs, k :: ks, h => by
    simp only [leavesAre, Bool.and_eq_true] at h
    obtain ⟨h1, h2⟩ := h
    obtain ⟨g1, g2⟩ := leaves_at h2
    refine ⟨by simp [g1], fun c k' hk => ?_⟩
    cases c with
    | zero =>
      simp at hk
      subst hk
      cases hu : P.underlying f with
      | none => rw [hu] at h1; cases h1
      | some u => rw [hu] at h1; exact ⟨f, u, rfl, hu, h1⟩
    | succ c =>
      obtain ⟨f', u, hf, hu, hk'⟩ := g2 c k' (by simpa using hk)
      exact ⟨f', u, by simpa using hf, hu, hk'⟩
set_option maxRecDepth 100000 in
theorem open_nest {H : Type} {enc : TypeId × Value → H} {P : Program} {w : World} {base : Nat} {held : Bool} {r : Reach} {b0 : Nat} {t e : TypeId} {ls : List TypeId} {v : Value} {d : DataW H} {ps : List MemPlace} (ht : P.underlying t = some (.slice e)) (hl : leavesT P 9 e = some ls) (hC : P.cellsOf e = ls.length) (hpos : 0 < ls.length)
    (hval : Value.okWide P w r b0 t v) (h : DataW.Trod enc P w base (fun _ => true) held t v d ps) :
    ∃ (A : Option Addr) (n c : Nat), v = .slice A n c ∧ n ≤ c ∧ c ≤ maxLen ∧ (0 < n → ∃ b o, A = some ⟨b, o, none⟩ ∧ b < w.heap.size ∧
      ∀ i, i < n → ∀ (j : Nat) (τ : TypeId), ls[j]? = some τ → ∃ u, w.cell? ⟨b, o + (i * ls.length + j), none⟩ = some u ∧ ∃ m y, DataW.trod enc P w base (fun _ => true) held m τ [u] = some y) := by
  obtain ⟨fuel, hf⟩ := h
  obtain ⟨A, n, c, rfl⟩ := okWide_slice ht hval
  rcases open_slice ht hf with ⟨hcs, hx⟩ | ⟨a, len, cap, m, k, D, Pl, hcs, _, hl', hm, hmm, hx, hi⟩
  · simp [Value.cells] at hcs
    obtain ⟨rfl, rfl, rfl⟩ := hcs
    exact ⟨none, 0, 0, rfl, Nat.le_refl _, by simp [maxLen], fun h => absurd h (by omega)⟩
  · simp [Value.cells] at hcs
    obtain ⟨rfl, rfl, rfl⟩ := hcs
    simp only [if_true] at hmm
    refine ⟨some a, n, c, rfl, hl', hm, fun hn => ?_⟩
    have each : ∀ i, i < n → ∀ (j : Nat) (τ : TypeId), ls[j]? = some τ → ∃ u, w.cell? (a.add (i * ls.length + j)) = some u ∧ ∃ m y, DataW.trod enc P w base (fun _ => true) held m τ [u] = some y := fun i hin j τ hj => by
      obtain ⟨cs', hc, ht'⟩ := hi i (by omega)
      rw [hC] at hc
      obtain ⟨_, hcl, hat⟩ := World.cells?_some hc
      have hjl : j < ls.length := (List.getElem?_eq_some_iff.1 hj).1
      have hcell := hat j hjl
      have hv : cs'[j]? = some (cs'[j]'(by omega)) := List.getElem?_eq_getElem (by omega)
      have hlo := leaf_ok 9 e ls _ cs' _ hl hC.symm (by omega) ht' j τ _ hj hv
      refine ⟨_, ?_, hlo⟩
      rw [← Go.Deep.add_add, hcell, hv]
    obtain ⟨τ0, hf0⟩ : ∃ f, ls[0]? = some f := ⟨ls[0], List.getElem?_eq_getElem hpos⟩
    obtain ⟨u0, h0, _⟩ := each 0 hn 0 τ0 hf0
    have hs : a.spot = none := by simpa [Addr.add] using World.cell?_spot h0
    obtain ⟨b, o, sp⟩ := a
    simp only at hs
    subst hs
    refine ⟨b, o, rfl, by simpa [Addr.add] using cell_lt h0, fun i hin j f hj => ?_⟩
    obtain ⟨u, h1, h2⟩ := each i hin j f hj
    have e1 : (⟨b, o, none⟩ : Addr).add (i * ls.length + j) = ⟨b, o + (i * ls.length + j), none⟩ := by unfold Addr.add; split <;> simp_all
    rw [e1] at h1
    exact ⟨u, h1, h2⟩
set_option maxRecDepth 100000 in
/-- A slice of nested structs came in. -/
theorem open_nrows {H : Type} {enc : TypeId × Value → H} {w : World} {base : Nat} {held : Bool} {r : Reach} {b0 : Nat} {v : Value} {d : DataW H} {ps : List MemPlace} {t e : TypeId} {ls : List TypeId} (ks : List CK)
    (ht : Try.prog.underlying t = some (.slice e)) (hl : leavesT Try.prog 9 e = some ls) (hC : Try.prog.cellsOf e = ls.length) (hpos : 0 < ls.length) (hks : leavesAre Try.prog ls ks = true)
    (hval : Value.okWide Try.prog w r b0 t v) (h : DataW.Trod enc Try.prog w base (fun _ => true) held t v d ps) :
    ∃ (A : Option Addr) (n c : Nat) (cs : List Col) (i : LI), v = .slice A n c ∧ n ≤ c ∧ c ≤ 9223372036854775807 ∧ Fits n ks cs ∧ InB w A n (.rows cs) i := by
  obtain ⟨A, n, c, rfl, h1, h2, h3⟩ := open_nest ht hl hC hpos hval h
  obtain ⟨hll, hat⟩ := leaves_at hks
  have hsz : ls.length = ks.length := hll
  have hrow : ∀ (b o : Nat), (∀ i, i < n → ∀ (j : Nat) (τ : TypeId), ls[j]? = some τ → ∃ u, w.cell? ⟨b, o + (i * ls.length + j), none⟩ = some u ∧ ∃ m y, DataW.trod enc Try.prog w base (fun _ => true) held m τ [u] = some y) →
      ∀ c k, ks[c]? = some k → ∀ j, j < n → ∃ v, w.cell? ⟨b, o + (j * ks.length + c), none⟩ = some v ∧ k.val v := fun b o hi c k hk j hj => by
    obtain ⟨f, u, hf, hu, hku⟩ := hat c k hk
    obtain ⟨x, hx, hx2⟩ := hi j hj c f hf
    rw [hsz] at hx
    refine ⟨x, hx, ?_⟩
    cases k with
    | i k =>
      cases u <;> simp only [CK.under] at hku <;> try cases hku
      rename_i k'
      have := of_decide_eq_true hku
      subst this
      exact field_int hu hx2
    | b =>
      cases u <;> simp only [CK.under] at hku <;> try cases hku
      exact field_bool hu hx2
  have hc : c ≤ 9223372036854775807 := by unfold maxLen at h2; omega
  by_cases hn : 0 < n
  · obtain ⟨b, o, e, hb, hi⟩ := h3 hn
    obtain ⟨cs, g1, g2, g3, g4⟩ := cols_of n ks (fun j c => w.cell? ⟨b, o + (j * ks.length + c), none⟩) (hrow b o hi)
    obtain ⟨i, hin⟩ := in_rows (w := w) (A := A) (n := n) (cs := cs) (fun h => by omega) (fun _ => ⟨b, o, e, hb, fun c cl r v hc hv => by
      have := g4 c cl r v hc hv
      rw [← g1] at this
      exact this⟩)
    exact ⟨A, n, c, cs, i, rfl, h1, hc, g2, hin⟩
  · have h0 : n = 0 := by omega
    obtain ⟨cs, g1, g2, g3, _⟩ := cols_of n ks (fun _ _ => none) (fun c k _ j hj => by omega)
    obtain ⟨i, hin⟩ := in_rows (w := w) (A := A) (n := n) (cs := cs) (fun h => g3 h) (fun h => absurd h hn)
    exact ⟨A, n, c, cs, i, rfl, h1, hc, g2, hin⟩
end Go.Proofs.Ytbjealobiblabaa

namespace Go.Proofs.Ytbjealobiblabaa
open Go Go.ChangeShapes Go.WideShapes Go.ChangeAt Go.RowKit Go.Deep
/-- Blocks as bits. -/
def tgOf : List (Nat × Nat) → Nat
  | [] => 0
  | (n, b) :: r => addTg (tgOf r) n b
theorem tgOf_bit : ∀ {l : List (Nat × Nat)} {k : Nat}, (tgOf l).testBit k = true ↔ ∃ n, 0 < n ∧ (n, k) ∈ l
  | [], k => by simp [tgOf, Nat.zero_testBit]
  | (n, b) :: r, k => by
    simp only [tgOf, addTg_bit, tgOf_bit, List.mem_cons, Prod.mk.injEq]
    constructor
    · rintro (⟨m, h1, h2⟩ | ⟨h1, rfl⟩)
      · exact ⟨m, h1, .inr h2⟩
      · exact ⟨n, h1, .inl ⟨rfl, rfl⟩⟩
    · rintro ⟨m, h1, (⟨rfl, rfl⟩ | h2)⟩
      · exact .inr ⟨h1, rfl⟩
      · exact .inl ⟨m, h1, h2⟩
/-- What stands in one cell: a slice, and what its block holds. -/
structure SlIn (w : World) (x : Value) (n : Nat) (k : Cont) (tg : Nat) : Prop where
  at_ : ∃ A c, x = .slice A n c ∧ n ≤ c ∧ (0 < n → ∃ b o, A = some ⟨b, o, none⟩ ∧ tg.testBit b = true ∧ ∀ (ρ' : Rho) (nx' : Nat), k.rel ρ' nx' (fun t => w.cell? ⟨b, o + t, none⟩))
theorem SlIn.more {w : World} {x : Value} {n : Nat} {k : Cont} {tg tg' : Nat} (h : SlIn w x n k tg) (ht : ∀ g, tg.testBit g = true → tg'.testBit g = true) : SlIn w x n k tg' := by
  obtain ⟨A, c, h1, h2, h3⟩ := h.at_
  refine ⟨A, c, h1, h2, fun hn => ?_⟩
  obtain ⟨b, o, g1, g2, g3⟩ := h3 hn
  exact ⟨b, o, g1, ht _ g2, g3⟩
/-- All cells of a column hold slices. -/
theorem nest_of {α : Type} (d : α) (len : α → Nat) (cont : α → Cont) (good : α → Prop) {w : World} (n : Nat) (cell : Nat → Option Value)
    (h : ∀ j, j < n → ∃ x A c, cell j = some (.slice A (len x) c) ∧ len x ≤ c ∧ good x ∧ (0 < len x → ∃ b o, A = some ⟨b, o, none⟩ ∧ (∃ cur e fz, w.heap[b]? = some (.cells cur e fz)) ∧ ∀ (ρ' : Rho) (nx' : Nat), (cont x).rel ρ' nx' (fun t => w.cell? ⟨b, o + t, none⟩))) :
    ∃ (l : List α) (tg : Nat), l.length = n ∧ (∀ j, j < n → good (l.getD j d)) ∧ (∀ g, tg.testBit g = true → ∃ cur e fz, w.heap[g]? = some (.cells cur e fz)) ∧ ∀ j, j < n → ∃ x, cell j = some x ∧ SlIn w x (len (l.getD j d)) (cont (l.getD j d)) tg := by
  obtain ⟨L, hL, hp⟩ := lists_of (d, 0) (p := fun j (q : α × Nat) => ∃ A c, cell j = some (.slice A (len q.1) c) ∧ len q.1 ≤ c ∧ good q.1 ∧ (0 < len q.1 → ∃ o, A = some ⟨q.2, o, none⟩ ∧ (∃ cur e fz, w.heap[q.2]? = some (.cells cur e fz)) ∧ ∀ (ρ' : Rho) (nx' : Nat), (cont q.1).rel ρ' nx' (fun t => w.cell? ⟨q.2, o + t, none⟩))) n fun j hj => by
    obtain ⟨x, A, c, h1, h2, h3, h4⟩ := h j hj
    by_cases h0 : 0 < len x
    · obtain ⟨b, o, g1, g2, g3⟩ := h4 h0
      exact ⟨(x, b), A, c, h1, h2, h3, fun _ => ⟨o, g1, g2, g3⟩⟩
    · exact ⟨(x, 0), A, c, h1, h2, h3, fun h => absurd h h0⟩
  have hg : ∀ j, j < n → ((L.map fun q => q.1).getD j d) = (L.getD j (d, 0)).1 := fun j hj => by
    simp [List.getD_eq_getElem?_getD, show j < L.length by omega]
  refine ⟨L.map fun q => q.1, tgOf (L.map fun q => (len q.1, q.2)), by simp [hL], fun j hj => ?_, fun g hb => ?_, fun j hj => ?_⟩
  · rw [hg j hj]
    obtain ⟨A, c, _, _, h3, _⟩ := hp j hj
    exact h3
  · obtain ⟨m, hm, hmem⟩ := tgOf_bit.1 hb
    obtain ⟨q, hq, e⟩ := List.mem_map.1 hmem
    cases e
    obtain ⟨j, hj, rfl⟩ := List.mem_iff_getElem.1 hq
    obtain ⟨A, c, _, _, _, h4⟩ := hp j (by omega)
    rw [List.getD_eq_getElem?_getD, List.getElem?_eq_getElem hj] at h4
    obtain ⟨o, _, g2, _⟩ := h4 hm
    exact g2
  · rw [hg j hj]
    obtain ⟨A, c, h1, h2, h3, h4⟩ := hp j hj
    refine ⟨_, h1, A, c, rfl, h2, fun h0 => ?_⟩
    obtain ⟨o, g1, g2, g3⟩ := h4 h0
    refine ⟨_, o, g1, tgOf_bit.2 ⟨_, h0, List.mem_map.2 ⟨L.getD j (d, 0), ?_, rfl⟩⟩, g3⟩
    rw [List.getD_eq_getElem?_getD, List.getElem?_eq_getElem (show j < L.length by omega)]
    exact List.getElem_mem _
/-- A slice of slices that came in, for reading. -/
structure NestIn (w : World) (A : Option Addr) (n : Nat) (cs : List NCol) (i : LI) : Prop where
  at_ : 0 < n → A = some ⟨i.b, i.o, none⟩
  ok : ∀ (ρ : Rho) (nx : Nat), (⟨false, false, .obj (.nest cs [])⟩ : ABlk).ok ρ nx i w
theorem NestIn.arg {w : World} {A : Option Addr} {n c l nx : Nat} {cs : List NCol} {ρ : Rho} (h : NestIn w A n cs (ρ l)) (hl : l < nx) (hnc : n ≤ c) (wd s : Nat) : AV.rel ρ nx (.sl false l wd 0 s n (some c)) (.slice A n c) := by
  simp only [AV.rel]
  refine ⟨hl, A, c, rfl, hnc, fun hn => ?_, (fun h => by cases h), rfl⟩
  rw [h.at_ hn]; simp
theorem nest_in {w : World} {A : Option Addr} {n : Nat} {cs : List NCol} {tg : Nat} (hlen : ∀ nc ∈ cs, nc.len = n) (hne : cs ≠ [])
    (h : 0 < n → ∃ b o, A = some ⟨b, o, none⟩ ∧ b < w.heap.size ∧ (∀ g, tg.testBit g = true → ∃ cur e fz, w.heap[g]? = some (.cells cur e fz)) ∧ ∀ (c : Nat) (nc : NCol) (j : Nat), cs[c]? = some nc → j < n → ∃ x, w.cell? ⟨b, o + (j * cs.length + c), none⟩ = some x ∧ SlIn w x (nc.at j).1 (nc.at j).2 tg) : ∃ i, NestIn w A n cs i := by
  by_cases hn : 0 < n
  · obtain ⟨b, o, e, hb, ht, hc⟩ := h hn
    refine ⟨⟨b, o, 0, tg⟩, fun _ => e, fun ρ nx => ⟨.inl hb, (fun r c a ha => by cases ha), (fun h => by cases h), (fun h => by cases h), fun q hq => ?_⟩⟩
    cases hq
    intro _
    refine ⟨ht, fun c nc j hcs hj => ?_⟩
    rw [hlen nc (List.mem_of_getElem? hcs)] at hj
    obtain ⟨x, h1, A', c', rfl, h2, h3⟩ := hc c nc j hcs hj
    exact ⟨A', c', h1, h2, h3⟩
  · have h0 : nestB cs = false := by
      cases hb : nestB cs with
      | false => rfl
      | true =>
        obtain ⟨c, nc, hc, hl⟩ := nestB_some hb
        rw [hlen nc (List.mem_of_getElem? hc)] at hl
        exact absurd hl hn
    exact ⟨⟨0, 0, 0, 0⟩, fun h => absurd h hn, fun ρ nx => ABlk.ok.any ⟨rfl, rfl, fun q hq => by cases hq; simp [QObj.hollow, h0], fun r c a ha => by cases ha⟩ w⟩
set_option maxRecDepth 100000 in
/-- A slice in a cell: where its elements' leaves stand. -/
theorem open_slcell {H : Type} {enc : TypeId × Value → H} {P : Program} {w : World} {base : Nat} {held : Bool} {t e : TypeId} {ls : List TypeId} {u : Value} (ht : P.underlying t = some (.slice e)) (hl : leavesT P 9 e = some ls) (hC : P.cellsOf e = ls.length) (hpos : 0 < ls.length)
    (h : ∃ m y, DataW.trod enc P w base (fun _ => true) held m t [u] = some y) :
    ∃ (A : Option Addr) (n c : Nat), u = .slice A n c ∧ n ≤ c ∧ c ≤ maxLen ∧ (0 < n → ∃ b o, A = some ⟨b, o, none⟩ ∧ b < w.heap.size ∧
      ∀ i, i < n → ∀ (j : Nat) (τ : TypeId), ls[j]? = some τ → ∃ v, w.cell? ⟨b, o + (i * ls.length + j), none⟩ = some v ∧ ∃ m y, DataW.trod enc P w base (fun _ => true) held m τ [v] = some y) := by
  obtain ⟨fuel, y, hf⟩ := h
  rcases open_slice ht hf with ⟨hcs, hx⟩ | ⟨a, len, cap, m, k, D, Pl, hcs, _, hl', hm, hmm, hx, hi⟩
  · simp at hcs
    subst hcs
    exact ⟨none, 0, 0, rfl, Nat.le_refl _, by simp [maxLen], fun h => absurd h (by omega)⟩
  · simp at hcs
    subst hcs
    simp only [if_true] at hmm
    refine ⟨some a, len, cap, rfl, hl', hm, fun hn => ?_⟩
    have each : ∀ i, i < len → ∀ (j : Nat) (τ : TypeId), ls[j]? = some τ → ∃ v, w.cell? (a.add (i * ls.length + j)) = some v ∧ ∃ m y, DataW.trod enc P w base (fun _ => true) held m τ [v] = some y := fun i hin j τ hj => by
      obtain ⟨cs', hc, ht'⟩ := hi i (by omega)
      rw [hC] at hc
      obtain ⟨_, hcl, hat⟩ := World.cells?_some hc
      have hjl : j < ls.length := (List.getElem?_eq_some_iff.1 hj).1
      have hcell := hat j hjl
      have hv : cs'[j]? = some (cs'[j]'(by omega)) := List.getElem?_eq_getElem (by omega)
      have hlo := leaf_ok 9 e ls _ cs' _ hl hC.symm (by omega) ht' j τ _ hj hv
      refine ⟨_, ?_, hlo⟩
      rw [← Go.Deep.add_add, hcell, hv]
    obtain ⟨τ0, hf0⟩ : ∃ f, ls[0]? = some f := ⟨ls[0], List.getElem?_eq_getElem hpos⟩
    obtain ⟨u0, h0, _⟩ := each 0 hn 0 τ0 hf0
    have hs : a.spot = none := by simpa [Addr.add] using World.cell?_spot h0
    obtain ⟨b, o, sp⟩ := a
    simp only at hs
    subst hs
    refine ⟨b, o, rfl, by simpa [Addr.add] using cell_lt h0, fun i hin j f hj => ?_⟩
    obtain ⟨u, h1, h2⟩ := each i hin j f hj
    have e1 : (⟨b, o, none⟩ : Addr).add (i * ls.length + j) = ⟨b, o + (i * ls.length + j), none⟩ := by unfold Addr.add; split <;> simp_all
    rw [e1] at h1
    exact ⟨u, h1, h2⟩
/-- Numbers in a slice that stands in a cell. -/
theorem open_intcell {H : Type} {enc : TypeId × Value → H} {P : Program} {w : World} {base : Nat} {held : Bool} {t e : TypeId} {k : IntKind} {u : Value} (ht : P.underlying t = some (.slice e)) (he : P.underlying e = some (.int k)) (hl : leavesT P 9 e = some [e]) (hC : P.cellsOf e = 1)
    (h : ∃ m y, DataW.trod enc P w base (fun _ => true) held m t [u] = some y) :
    ∃ (zs : List Int) (A : Option Addr) (c : Nat), u = .slice A zs.length c ∧ zs.length ≤ c ∧ (c ≤ maxLen ∧ ∀ j, j < zs.length → (Lit.int k (zs.getD j 0)).wf = true) ∧ (0 < zs.length → ∃ b o, A = some ⟨b, o, none⟩ ∧ (∃ cur e fz, w.heap[b]? = some (.cells cur e fz)) ∧ ∀ (ρ' : Rho) (nx' : Nat), (Cont.col (.ints k zs)).rel ρ' nx' (fun t => w.cell? ⟨b, o + t, none⟩)) := by
  obtain ⟨A, n, c, rfl, h1, h2, h3⟩ := open_slcell ht hl hC (by simp) h
  by_cases hn : 0 < n
  · obtain ⟨b, o, rfl, hb, hi⟩ := h3 hn
    obtain ⟨zs, hz, hp⟩ := lists_of (0 : Int) (p := fun j z => w.cell? ⟨b, o + j, none⟩ = some (.int k z) ∧ (Lit.int k z).wf = true) n fun j hj => by
      obtain ⟨v, g1, g2⟩ := hi j hj 0 e rfl
      obtain ⟨z, rfl, hw⟩ := field_int he g2
      exact ⟨z, by simpa using g1, hw⟩
    subst hz
    refine ⟨zs, _, c, rfl, h1, ⟨h2, fun j hj => (hp j hj).2⟩, fun _ => ⟨b, o, rfl, cell_cells (hp 0 hn).1, fun ρ nx r c a ha => ?_⟩⟩
    cases c <;> simp only [Cont.at] at ha <;> try cases ha
    simp only [Col.at, Option.some.injEq, Prod.mk.injEq, decide_eq_true_eq] at ha
    obtain ⟨rfl, hlt⟩ := ha
    exact ⟨by simp [Cont.width], _, by simpa [Cont.width] using (hp r hlt).1, by simp [AV.rel]⟩
  · have h0 : n = 0 := by omega
    subst h0
    exact ⟨[], A, c, rfl, h1, ⟨h2, fun j hj => absurd hj (by simp)⟩, fun h => absurd h (by simp)⟩
theorem open_boolcell {H : Type} {enc : TypeId × Value → H} {P : Program} {w : World} {base : Nat} {held : Bool} {t e : TypeId} {u : Value} (ht : P.underlying t = some (.slice e)) (he : P.underlying e = some .bool) (hl : leavesT P 9 e = some [e]) (hC : P.cellsOf e = 1)
    (h : ∃ m y, DataW.trod enc P w base (fun _ => true) held m t [u] = some y) :
    ∃ (zs : List Bool) (A : Option Addr) (c : Nat), u = .slice A zs.length c ∧ zs.length ≤ c ∧ c ≤ maxLen ∧ (0 < zs.length → ∃ b o, A = some ⟨b, o, none⟩ ∧ (∃ cur e fz, w.heap[b]? = some (.cells cur e fz)) ∧ ∀ (ρ' : Rho) (nx' : Nat), (Cont.col (.bools zs)).rel ρ' nx' (fun t => w.cell? ⟨b, o + t, none⟩)) := by
  obtain ⟨A, n, c, rfl, h1, h2, h3⟩ := open_slcell ht hl hC (by simp) h
  by_cases hn : 0 < n
  · obtain ⟨b, o, rfl, hb, hi⟩ := h3 hn
    obtain ⟨zs, hz, hp⟩ := lists_of false (p := fun j z => w.cell? ⟨b, o + j, none⟩ = some (.bool z)) n fun j hj => by
      obtain ⟨v, g1, g2⟩ := hi j hj 0 e rfl
      obtain ⟨z, rfl⟩ := field_bool he g2
      exact ⟨z, by simpa using g1⟩
    subst hz
    refine ⟨zs, _, c, rfl, h1, h2, fun _ => ⟨b, o, rfl, cell_cells (hp 0 hn), fun ρ nx r c a ha => ?_⟩⟩
    cases c <;> simp only [Cont.at] at ha <;> try cases ha
    simp only [Col.at, Option.some.injEq, Prod.mk.injEq, decide_eq_true_eq] at ha
    obtain ⟨rfl, hlt⟩ := ha
    exact ⟨by simp [Cont.width], _, (by show w.cell? ⟨b, o + (r * 1 + 0), none⟩ = _; rw [Nat.mul_one, Nat.add_zero]; exact hp r hlt), by simp [AV.rel]⟩
  · have h0 : n = 0 := by omega
    subst h0
    exact ⟨[], A, c, rfl, h1, h2, fun h => absurd h (by simp)⟩
set_option maxRecDepth 100000 in
/-- A slice of slices of numbers came in. -/
theorem open_intss {H : Type} {enc : TypeId × Value → H} {P : Program} {w : World} {base : Nat} {held : Bool} {r : Reach} {b0 : Nat} {t t1 e : TypeId} {k : IntKind} {v : Value} {d : DataW H} {ps : List MemPlace} (ht : P.underlying t = some (.slice t1)) (ht1 : P.underlying t1 = some (.slice e)) (he : P.underlying e = some (.int k))
    (hl : leavesT P 9 e = some [e]) (hC : P.cellsOf e = 1) (hl1 : leavesT P 9 t1 = some [t1]) (hC1 : P.cellsOf t1 = 1)
    (hval : Value.okWide P w r b0 t v) (h : DataW.Trod enc P w base (fun _ => true) held t v d ps) :
    ∃ (A : Option Addr) (n c : Nat) (zss : List (List Int)) (i : LI), v = .slice A n c ∧ n ≤ c ∧ c ≤ 9223372036854775807 ∧ zss.length = n ∧ (∀ j, j < n → (zss.getD j []).length ≤ 9223372036854775807 ∧ ∀ m, m < (zss.getD j []).length → (Lit.int k ((zss.getD j []).getD m 0)).wf = true) ∧ NestIn w A n [.ints k zss] i := by
  obtain ⟨A, n, c, rfl, h1, h2, h3⟩ := open_nest ht hl1 hC1 (by simp) hval h
  have hc : c ≤ 9223372036854775807 := by unfold maxLen at h2; omega
  have hmx : maxLen ≤ 9223372036854775807 := by simp [maxLen]
  by_cases hn : 0 < n
  · obtain ⟨b, o, rfl, hb, hi⟩ := h3 hn
    obtain ⟨l, tg, g1, g2, g3, g4⟩ := nest_of ([] : List Int) List.length (fun zs => .col (.ints k zs)) (fun zs => zs.length ≤ 9223372036854775807 ∧ ∀ m, m < zs.length → (Lit.int k (zs.getD m 0)).wf = true) (w := w) n (fun j => w.cell? ⟨b, o + j, none⟩) fun j hj => by
      obtain ⟨u, f1, f2⟩ := hi j hj 0 t1 rfl
      obtain ⟨zs, A', c', rfl, e1, e2, e3⟩ := open_intcell ht1 he hl hC f2
      exact ⟨zs, A', c', by simpa using f1, e1, ⟨by omega, e2.2⟩, e3⟩
    obtain ⟨i, hin⟩ := nest_in (w := w) (A := some ⟨b, o, none⟩) (n := n) (cs := [.ints k l]) (tg := tg) (fun nc hnc => by simp at hnc; subst hnc; exact g1) (by simp) fun _ => ⟨b, o, rfl, hb, g3, fun c nc j hcs hj => by
      match c, hcs with
      | 0, hcs =>
        simp at hcs
        subst hcs
        obtain ⟨x, f1, f2⟩ := g4 j hj
        exact ⟨x, by simpa using f1, f2⟩
      | c + 1, hcs => simp at hcs⟩
    exact ⟨_, n, c, l, i, rfl, h1, hc, g1, g2, hin⟩
  · have h0 : n = 0 := by omega
    subst h0
    obtain ⟨i, hin⟩ := nest_in (w := w) (A := A) (n := 0) (cs := [.ints k []]) (tg := 0) (fun nc hnc => by simp at hnc; subst hnc; rfl) (by simp) fun h => absurd h (by omega)
    exact ⟨A, 0, c, [], i, rfl, h1, hc, rfl, fun j hj => absurd hj (by omega), hin⟩
end Go.Proofs.Ytbjealobiblabaa

namespace Go.Proofs.Ytbjealobiblabaa
open Go Go.ChangeShapes Go.WideShapes Go.ChangeAt Go.RowKit Go.Deep
set_option maxRecDepth 100000
set_option maxRecDepth 100000 in
/-- A slice of slices of bools came in. -/
theorem open_boolss {H : Type} {enc : TypeId × Value → H} {P : Program} {w : World} {base : Nat} {held : Bool} {r : Reach} {b0 : Nat} {t t1 e : TypeId} {v : Value} {d : DataW H} {ps : List MemPlace} (ht : P.underlying t = some (.slice t1)) (ht1 : P.underlying t1 = some (.slice e)) (he : P.underlying e = some .bool)
    (hl : leavesT P 9 e = some [e]) (hC : P.cellsOf e = 1) (hl1 : leavesT P 9 t1 = some [t1]) (hC1 : P.cellsOf t1 = 1)
    (hval : Value.okWide P w r b0 t v) (h : DataW.Trod enc P w base (fun _ => true) held t v d ps) :
    ∃ (A : Option Addr) (n c : Nat) (bss : List (List Bool)) (i : LI), v = .slice A n c ∧ n ≤ c ∧ c ≤ 9223372036854775807 ∧ bss.length = n ∧ NestIn w A n [.bools bss] i := by
  obtain ⟨A, n, c, rfl, h1, h2, h3⟩ := open_nest ht hl1 hC1 (by simp) hval h
  have hc : c ≤ 9223372036854775807 := by unfold maxLen at h2; omega
  by_cases hn : 0 < n
  · obtain ⟨b, o, rfl, hb, hi⟩ := h3 hn
    obtain ⟨l, tg, g1, g2, g3, g4⟩ := nest_of ([] : List Bool) List.length (fun zs => .col (.bools zs)) (fun _ => True) (w := w) n (fun j => w.cell? ⟨b, o + j, none⟩) fun j hj => by
      obtain ⟨u, f1, f2⟩ := hi j hj 0 t1 rfl
      obtain ⟨zs, A', c', rfl, e1, e2, e3⟩ := open_boolcell ht1 he hl hC f2
      exact ⟨zs, A', c', by simpa using f1, e1, trivial, e3⟩
    obtain ⟨i, hin⟩ := nest_in (w := w) (A := some ⟨b, o, none⟩) (n := n) (cs := [.bools l]) (tg := tg) (fun nc hnc => by simp at hnc; subst hnc; exact g1) (by simp) fun _ => ⟨b, o, rfl, hb, g3, fun c nc j hcs hj => by
      match c, hcs with
      | 0, hcs =>
        simp at hcs
        subst hcs
        obtain ⟨x, f1, f2⟩ := g4 j hj
        exact ⟨x, by simpa using f1, f2⟩
      | c + 1, hcs => simp at hcs⟩
    exact ⟨_, n, c, l, i, rfl, h1, hc, g1, hin⟩
  · have h0 : n = 0 := by omega
    subst h0
    obtain ⟨i, hin⟩ := nest_in (w := w) (A := A) (n := 0) (cs := [.bools []]) (tg := 0) (fun nc hnc => by simp at hnc; subst hnc; rfl) (by simp) fun h => absurd h (by omega)
    exact ⟨A, 0, c, [], i, rfl, h1, hc, rfl, hin⟩
abbrev L_aw3 (P : Program) (f45 f47 f53 f58 : Func) : List (FuncId × Spec) := [(45, inl P [] f45), (47, inl P [] f47), (46, e_ask), (28, e_add), (48, e_see), (53, inl P L_rch f53), (50, e_died), (58, inl P [] f58)]
theorem hE_aw3 : ESound Try.prog (envOf (L_aw3 Try.prog Try.f45 Try.f47 Try.f53 Try.f58)) :=
  env_cons (inl_ok env_nil mixedP (fun xs w => Try.call45 xs w) Try.func45 rfl) (env_cons (inl_ok env_nil mixedP (fun xs w => Try.call47 xs w) Try.func47 rfl) (env_cons ok_ask (env_cons ok_add (env_cons ok_see (env_cons (inl_ok hE_rch mixedP (fun xs w => Try.call53 xs w) Try.func53 rfl) (env_cons ok_died (env_cons (inl_ok env_nil mixedP (fun xs w => Try.call58 xs w) Try.func58 rfl) env_nil)))))))
theorem aw3_run : F_ Try.prog (L_aw3 Try.prog Try.f45 Try.f47 Try.f53 Try.f58) Try.f44 [] [] 99 [] noMem = some (.ret (vb true) ⟨[], 99⟩ true) := by kernel_rfl
def e_aw3 : Spec := fun _ args => match args with
  | [] => some (vb true, none, [])
  | _ => none
theorem ok_aw3 : SpecOk Try.prog 44 e_aw3 := fun m args v mo bs h hb => by
  unfold e_aw3 at h
  split at h <;> cases h
  exact pure_fn (c := bodyOf Try.f44) hE_aw3 mixedP (fun xs w => Try.call44 xs w) Try.func44 rfl aw3_run rfl rfl
abbrev L_fl (P : Program) (f45 f47 : Func) : List (FuncId × Spec) := [(44, e_aw3), (45, inl P [] f45), (47, inl P [] f47), (46, e_ask), (28, e_add), (48, e_see), (50, e_died), (49, e_rch)]
theorem hE_fl : ESound Try.prog (envOf (L_fl Try.prog Try.f45 Try.f47)) := env_cons ok_aw3 (env_cons (inl_ok env_nil mixedP (fun xs w => Try.call45 xs w) Try.func45 rfl) (env_cons (inl_ok env_nil mixedP (fun xs w => Try.call47 xs w) Try.func47 rfl) (env_cons ok_ask (env_cons ok_add (env_cons ok_see (env_cons ok_died (env_cons ok_rch env_nil)))))))
abbrev flC (a : Nat) : List Cut := [(2,[0,3,4,5],[0,1,2],a),(7,[0,3,4,5,6,7,8],[0,1,2,3,4,5],a),(6,[0,3,4,5,9],[0,1,2],a)]
abbrev flT (nn : Bool) (n : Nat) (c : Option Nat) (t4 t5 t6 t7 t8 t9 : AV) : List AV := [.sl nn 0 1 0 1 n c, .unk, .unk, .ptr 1 1 0 0, t4, t5, t6, t7, t8, t9] ++ List.replicate 110 .unk
abbrev flN (bss : List (List Bool)) : Nat × Option ABlk := (0, some ⟨false, false, .obj (.nest [.bools bss] [])⟩)
abbrev flZ (zs : List Int) : Nat × Option ABlk := (1, some ⟨true, false, .col (.ints .i64 zs)⟩)
abbrev flG (k : Nat) (g : List Int) : Nat × Option ABlk := (k, some ⟨true, true, .col (.ints .i64 g)⟩)
/-- A row of the rounds, named. -/
abbrev flF (bss : List (List Bool)) (j k : Nat) (r : List (Nat × Option ABlk)) : List (Nat × Option ABlk) := (k, some ⟨false, false, .col (.bools (bss.getD j []))⟩) :: (0, some ⟨false, false, .obj (.nest [.bools bss] [(0, j, .sl false k 1 0 1 (bss.getD j []).length none)])⟩) :: r
abbrev flM (es : List KV) : List (Nat × Option ABlk) := [(3, some ⟨true, false, .obj (.mpo 3 2 es)⟩), (4, some ⟨true, false, .cells [.mp 3]⟩)]
theorem fl_big (bss : List (List Bool)) (nn : Bool) (n : Nat) (c : Option Nat) : FO_ Try.prog (L_fl Try.prog Try.f45 Try.f47) Try.f8 (flC 9) [] 99 [2, 1] [.sl nn 0 1 0 1 n c] ⟨[flN bss], 1⟩ = some (.ret (vb true) ⟨[], 99⟩ (conj [decide (12 < Int.ofNat n)])) := by kernel_rfl
theorem fl_in (bss : List (List Bool)) (nn : Bool) (n : Nat) (c : Option Nat) : FO_ Try.prog (L_fl Try.prog Try.f45 Try.f47) Try.f8 (flC 9) [] 99 [2, 0] [.sl nn 0 1 0 1 n c] ⟨[flN bss], 1⟩ = some (.head (hd Try.f8 0) (flT nn n c (.val (.slice none 0 0)) (vi 0) .unk .unk .unk .unk) ⟨[flN bss, flZ (List.replicate 225 0), (2, none)], 9⟩ (conj [!decide (12 < Int.ofNat n)])) := by kernel_rfl
theorem f1bN (bss : List (List Bool)) (nn : Bool) (n : Nat) (c : Option Nat) (zs : List Int) (j : Nat) (i : Int) : HO_ Try.prog (L_fl Try.prog Try.f45 Try.f47) Try.f8 (flC 19) [] 99 [1, 1] (hd Try.f8 0) (flT nn n c (.val (.slice none 0 0)) (vi i) .unk .unk .unk .unk) ⟨flF bss j 3 ([flZ zs]), 4⟩ = some (.ret (vb true) ⟨[], 99⟩ (conj [decide (i < Int.ofNat n), decide (0 ≤ i), decide (i.toNat < n), Nat.beq (iz i + 0) j, decide (20 < Int.ofNat (bss.getD j []).length)])) := by kernel_rfl
theorem f1N (bss : List (List Bool)) (nn : Bool) (n : Nat) (c : Option Nat) (zs : List Int) (j : Nat) (i : Int) : HO_ Try.prog (L_fl Try.prog Try.f45 Try.f47) Try.f8 (flC 19) [] 99 [1, 0] (hd Try.f8 0) (flT nn n c (.val (.slice none 0 0)) (vi i) .unk .unk .unk .unk) ⟨flF bss j 3 ([flZ zs]), 4⟩ = some (.head (hd Try.f8 1) (flT nn n c (.val (.slice none 0 0)) (vi i) (vi 0) .unk .unk .unk) ⟨[flN bss, flZ zs, (2, none), (3, some ⟨false, false, .col (.bools (bss.getD j []))⟩), (4, none), (5, none)], 19⟩ (conj [decide (i < Int.ofNat n), decide (0 ≤ i), decide (i.toNat < n), Nat.beq (iz i + 0) j, !decide (20 < Int.ofNat (bss.getD j []).length)])) := by kernel_rfl
theorem f1eN (bss : List (List Bool)) (nn : Bool) (n : Nat) (c : Option Nat) (zs : List Int) (i : Int) : HO_ Try.prog (L_fl Try.prog Try.f45 Try.f47) Try.f8 (flC 19) [] 99 [0] (hd Try.f8 0) (flT nn n c (.val (.slice none 0 0)) (vi i) .unk .unk .unk .unk) ⟨[flN bss, flZ zs], 3⟩ = some (.ret (vb (rchF zs 3 0 == 0)) ⟨[], 99⟩ (conj [!decide (i < Int.ofNat n), decide (zs.length = 225)])) := by kernel_rfl
theorem f2N (bss : List (List Bool)) (nn : Bool) (n : Nat) (c : Option Nat) (zs : List Int) (j : Nat) (i k : Int) : HO_ Try.prog (L_fl Try.prog Try.f45 Try.f47) Try.f8 (flC 19) [] 99 [1] (hd Try.f8 1) (flT nn n c (.val (.slice none 0 0)) (vi i) (vi k) .unk .unk .unk) ⟨flF bss j 3 ([flZ zs]), 4⟩ = some (.head (hd Try.f8 1) (flT nn n c (.sl true 5 1 0 1 1 none) (vi i) (vi (up1 k)) .unk .unk .unk) ⟨[flN bss, flZ (askF zs 3), (2, none), (3, some ⟨false, false, .col (.bools (bss.getD j []))⟩), (4, some ⟨true, false, .cells [vi 0]⟩), flG 5 [0]], 19⟩ (conj [decide (0 ≤ i), decide (i.toNat < n), Nat.beq (iz i + 0) j, decide (k < Int.ofNat (bss.getD j []).length), decide (zs.length = 225)])) := by kernel_rfl
theorem f2eN (bss : List (List Bool)) (nn : Bool) (n : Nat) (c : Option Nat) (zs : List Int) (j : Nat) (i k : Int) : HO_ Try.prog (L_fl Try.prog Try.f45 Try.f47) Try.f8 (flC 19) [] 99 [0] (hd Try.f8 1) (flT nn n c (.val (.slice none 0 0)) (vi i) (vi k) .unk .unk .unk) ⟨flF bss j 3 ([flZ zs]), 4⟩ = some (.head (hd Try.f8 2) (flT nn n c (.val (.slice none 0 0)) (vi i) (vi k) (.ptr 5 1 0 0) (vi 0) .unk) ⟨[flN bss, flZ zs, (2, none), (3, some ⟨false, false, .col (.bools (bss.getD j []))⟩), (4, some ⟨true, false, .obj (.mpo 3 2 [])⟩), (5, some ⟨true, false, .cells [.mp 4]⟩)], 19⟩ (conj [decide (0 ≤ i), decide (i.toNat < n), Nat.beq (iz i + 0) j, !decide (k < Int.ofNat (bss.getD j []).length)])) := by kernel_rfl
theorem f3eN (bss : List (List Bool)) (nn : Bool) (n : Nat) (c : Option Nat) (zs : List Int) (es : List KV) (i k : Int) : HO_ Try.prog (L_fl Try.prog Try.f45 Try.f47) Try.f8 (flC 19) [] 99 [0] (hd Try.f8 2) (flT nn n c (.val (.slice none 0 0)) (vi i) .unk (.ptr 4 1 0 0) (vi k) .unk) ⟨[flN bss, flZ zs] ++ flM es, 5⟩ = some (.head (hd Try.f8 3) (flT nn n c (.val (.slice none 0 0)) (vi i) .unk .unk .unk (vi 0)) ⟨[flN bss, flZ (seeS zs es), (2, none)], 19⟩ (conj [!decide (k < 0), decide (zs.length = 225), decide (KD es), Nat.ble es.length 4096])) := by kernel_rfl
theorem f4N (bss : List (List Bool)) (nn : Bool) (n : Nat) (c : Option Nat) (zs : List Int) (i k : Int) : HO_ Try.prog (L_fl Try.prog Try.f45 Try.f47) Try.f8 (flC 19) [] 99 [1, 0] (hd Try.f8 3) (flT nn n c (.val (.slice none 0 0)) (vi i) .unk .unk .unk (vi k)) ⟨[flN bss, flZ zs], 3⟩ = some (.head (hd Try.f8 3) (flT nn n c (.val (.slice none 0 0)) (vi i) .unk .unk .unk (vi (up1 k))) ⟨[flN bss, flZ zs, (2, none)], 19⟩ (conj [decide (k < 6), decide (zs.length = 225), decide (zs.length = 225), !!decide (rchF zs 3 k < rchF zs 3 (up1 k)) || decide (zs.length = 225), !(bif decide (rchF zs 3 k < rchF zs 3 (up1 k)) then true else decide (diedF zs 3 k < 0))])) := by kernel_rfl
theorem f4eN (bss : List (List Bool)) (nn : Bool) (n : Nat) (c : Option Nat) (zs : List Int) (i k : Int) : HO_ Try.prog (L_fl Try.prog Try.f45 Try.f47) Try.f8 (flC 19) [] 99 [0] (hd Try.f8 3) (flT nn n c (.val (.slice none 0 0)) (vi i) .unk .unk .unk (vi k)) ⟨[flN bss, flZ zs], 3⟩ = some (.head (hd Try.f8 0) (flT nn n c (.val (.slice none 0 0)) (vi (up1 i)) .unk .unk .unk .unk) ⟨[flN bss, flZ zs, (2, none)], 19⟩ (conj [!decide (k < 6)])) := by kernel_rfl
theorem f1bY (bss : List (List Bool)) (nn : Bool) (n : Nat) (c : Option Nat) (zs : List Int) (g : List Int) (q : Nat) (j : Nat) (i : Int) : HO_ Try.prog (L_fl Try.prog Try.f45 Try.f47) Try.f8 (flC 19) [] 99 [1, 1] (hd Try.f8 0) (flT nn n c (.sl true 2 1 0 1 q none) (vi i) .unk .unk .unk .unk) ⟨flF bss j 3 ([flZ zs] ++ [flG 2 g]), 4⟩ = some (.ret (vb true) ⟨[], 99⟩ (conj [decide (i < Int.ofNat n), decide (0 ≤ i), decide (i.toNat < n), Nat.beq (iz i + 0) j, decide (20 < Int.ofNat (bss.getD j []).length)])) := by kernel_rfl
theorem f1Y (bss : List (List Bool)) (nn : Bool) (n : Nat) (c : Option Nat) (zs : List Int) (g : List Int) (q : Nat) (j : Nat) (i : Int) : HO_ Try.prog (L_fl Try.prog Try.f45 Try.f47) Try.f8 (flC 19) [] 99 [1, 0] (hd Try.f8 0) (flT nn n c (.sl true 2 1 0 1 q none) (vi i) .unk .unk .unk .unk) ⟨flF bss j 3 ([flZ zs] ++ [flG 2 g]), 4⟩ = some (.head (hd Try.f8 1) (flT nn n c (.sl true 2 1 0 1 q none) (vi i) (vi (Int.ofNat q)) .unk .unk .unk) ⟨[flN bss, flZ zs, flG 2 g, (3, some ⟨false, false, .col (.bools (bss.getD j []))⟩), (4, none), (5, none)], 19⟩ (conj [decide (i < Int.ofNat n), decide (0 ≤ i), decide (i.toNat < n), Nat.beq (iz i + 0) j, !decide (20 < Int.ofNat (bss.getD j []).length)])) := by kernel_rfl
theorem f1eY (bss : List (List Bool)) (nn : Bool) (n : Nat) (c : Option Nat) (zs : List Int) (g : List Int) (q : Nat) (i : Int) : HO_ Try.prog (L_fl Try.prog Try.f45 Try.f47) Try.f8 (flC 19) [] 99 [0] (hd Try.f8 0) (flT nn n c (.sl true 2 1 0 1 q none) (vi i) .unk .unk .unk .unk) ⟨[flN bss, flZ zs] ++ [flG 2 g], 3⟩ = some (.ret (vb (rchF zs 3 0 == Int.ofNat q)) ⟨[], 99⟩ (conj [!decide (i < Int.ofNat n), decide (zs.length = 225)])) := by kernel_rfl
theorem f2Y (bss : List (List Bool)) (nn : Bool) (n : Nat) (c : Option Nat) (zs : List Int) (g : List Int) (q : Nat) (j : Nat) (i k : Int) : HO_ Try.prog (L_fl Try.prog Try.f45 Try.f47) Try.f8 (flC 19) [] 99 [1] (hd Try.f8 1) (flT nn n c (.sl true 2 1 0 1 q none) (vi i) (vi k) .unk .unk .unk) ⟨flF bss j 3 ([flZ zs] ++ [flG 2 g]), 4⟩ = some (.head (hd Try.f8 1) (flT nn n c (.sl true 5 1 0 1 (q + 1) none) (vi i) (vi (up1 k)) .unk .unk .unk) ⟨[flN bss, flZ (askF zs 3), (2, none), (3, some ⟨false, false, .col (.bools (bss.getD j []))⟩), (4, some ⟨true, false, .cells [vi 0]⟩), flG 5 (List.take q g ++ [0])], 19⟩ (conj [decide (0 ≤ i), decide (i.toNat < n), Nat.beq (iz i + 0) j, decide (k < Int.ofNat (bss.getD j []).length), decide (zs.length = 225), decide (0 < q), decide ((q + 1) * 8 ≤ 140737488355328), decide (q ≤ g.length)])) := by kernel_rfl
theorem f2eY (bss : List (List Bool)) (nn : Bool) (n : Nat) (c : Option Nat) (zs : List Int) (g : List Int) (q : Nat) (j : Nat) (i k : Int) : HO_ Try.prog (L_fl Try.prog Try.f45 Try.f47) Try.f8 (flC 19) [] 99 [0] (hd Try.f8 1) (flT nn n c (.sl true 2 1 0 1 q none) (vi i) (vi k) .unk .unk .unk) ⟨flF bss j 3 ([flZ zs] ++ [flG 2 g]), 4⟩ = some (.head (hd Try.f8 2) (flT nn n c (.sl true 2 1 0 1 q none) (vi i) (vi k) (.ptr 5 1 0 0) (vi 0) .unk) ⟨[flN bss, flZ zs, flG 2 g, (3, some ⟨false, false, .col (.bools (bss.getD j []))⟩), (4, some ⟨true, false, .obj (.mpo 3 2 [])⟩), (5, some ⟨true, false, .cells [.mp 4]⟩)], 19⟩ (conj [decide (0 ≤ i), decide (i.toNat < n), Nat.beq (iz i + 0) j, !decide (k < Int.ofNat (bss.getD j []).length)])) := by kernel_rfl
theorem f3 (bss : List (List Bool)) (nn : Bool) (n : Nat) (c : Option Nat) (zs : List Int) (g : List Int) (q : Nat) (es : List KV) (j : Nat) (i k : Int) : HO_ Try.prog (L_fl Try.prog Try.f45 Try.f47) Try.f8 (flC 19) [] 99 [1] (hd Try.f8 2) (flT nn n c (.sl true 2 1 0 1 q none) (vi i) .unk (.ptr 4 1 0 0) (vi k) .unk) ⟨flF bss j 5 ([flZ zs, flG 2 g] ++ flM es), 6⟩ =
    bif (bif (bif decide (g.getD (iz k + 0) 0 < 0) then true else decide (Int.ofNat (bss.getD j []).length ≤ k)) then true else !(bss.getD j []).getD (iz k + 0) false) then some (.head (hd Try.f8 2) (flT nn n c (.sl true 2 1 0 1 q none) (vi i) .unk (.ptr 4 1 0 0) (vi (up1 k)) .unk) ⟨[flN bss, flZ zs, flG 2 (g.set (iz k + 0) (-1))] ++ flM es ++ [(5, some ⟨false, false, .col (.bools (bss.getD j []))⟩)], 19⟩ (conj [decide (k < Int.ofNat q), decide (0 ≤ k), decide (k.toNat < q), decide (iz k + 0 < g.length), !!decide (g.getD (iz k + 0) 0 < 0) || decide (0 ≤ i), !!decide (g.getD (iz k + 0) 0 < 0) || decide (i.toNat < n), !!decide (g.getD (iz k + 0) 0 < 0) || Nat.beq (iz i + 0) j, !!(bif decide (g.getD (iz k + 0) 0 < 0) then true else decide (Int.ofNat (bss.getD j []).length ≤ k)) || decide (0 ≤ i), !!(bif decide (g.getD (iz k + 0) 0 < 0) then true else decide (Int.ofNat (bss.getD j []).length ≤ k)) || decide (i.toNat < n), !!(bif decide (g.getD (iz k + 0) 0 < 0) then true else decide (Int.ofNat (bss.getD j []).length ≤ k)) || Nat.beq (iz i + 0) j, !!(bif decide (g.getD (iz k + 0) 0 < 0) then true else decide (Int.ofNat (bss.getD j []).length ≤ k)) || decide (0 ≤ k), !!(bif decide (g.getD (iz k + 0) 0 < 0) then true else decide (Int.ofNat (bss.getD j []).length ≤ k)) || decide (k.toNat < (bss.getD j []).length), !!(bif decide (g.getD (iz k + 0) 0 < 0) then true else decide (Int.ofNat (bss.getD j []).length ≤ k)) || decide (iz k + 0 < (bss.getD j []).length), decide (0 ≤ k), decide (k.toNat < q), decide (iz k + 0 < g.length)]))
    else some (.head (hd Try.f8 2) (flT nn n c (.sl true 2 1 0 1 q none) (vi i) .unk (.ptr 4 1 0 0) (vi (up1 k)) .unk) ⟨[flN bss, flZ zs, flG 2 (g.set (iz k + 0) (min (IntKind.i64.wrap (g.getD (iz k + 0) 0 + 1)) 7))] ++ flM (addH es 0 0 3 ((g.set (iz k + 0) (min (IntKind.i64.wrap (g.getD (iz k + 0) 0 + 1)) 7)).getD (iz k + 0) 0)) ++ [(5, some ⟨false, false, .col (.bools (bss.getD j []))⟩)], 19⟩ (conj [decide (k < Int.ofNat q), decide (0 ≤ k), decide (k.toNat < q), decide (iz k + 0 < g.length), !!decide (g.getD (iz k + 0) 0 < 0) || decide (0 ≤ i), !!decide (g.getD (iz k + 0) 0 < 0) || decide (i.toNat < n), !!decide (g.getD (iz k + 0) 0 < 0) || Nat.beq (iz i + 0) j, !!(bif decide (g.getD (iz k + 0) 0 < 0) then true else decide (Int.ofNat (bss.getD j []).length ≤ k)) || decide (0 ≤ i), !!(bif decide (g.getD (iz k + 0) 0 < 0) then true else decide (Int.ofNat (bss.getD j []).length ≤ k)) || decide (i.toNat < n), !!(bif decide (g.getD (iz k + 0) 0 < 0) then true else decide (Int.ofNat (bss.getD j []).length ≤ k)) || Nat.beq (iz i + 0) j, !!(bif decide (g.getD (iz k + 0) 0 < 0) then true else decide (Int.ofNat (bss.getD j []).length ≤ k)) || decide (0 ≤ k), !!(bif decide (g.getD (iz k + 0) 0 < 0) then true else decide (Int.ofNat (bss.getD j []).length ≤ k)) || decide (k.toNat < (bss.getD j []).length), !!(bif decide (g.getD (iz k + 0) 0 < 0) then true else decide (Int.ofNat (bss.getD j []).length ≤ k)) || decide (iz k + 0 < (bss.getD j []).length), decide (0 ≤ k), decide (k.toNat < q), decide (iz k + 0 < g.length), decide (0 ≤ k), decide (k.toNat < q), decide (iz k + 0 < g.length), decide (0 ≤ k), decide (k.toNat < q), decide (iz k + 0 < (g.set (iz k + 0) (min (IntKind.i64.wrap (g.getD (iz k + 0) 0 + 1)) 7)).length), keysN 3 es])) := by kernel_rfl
theorem f3eY (bss : List (List Bool)) (nn : Bool) (n : Nat) (c : Option Nat) (zs : List Int) (g : List Int) (q : Nat) (es : List KV) (i k : Int) : HO_ Try.prog (L_fl Try.prog Try.f45 Try.f47) Try.f8 (flC 19) [] 99 [0] (hd Try.f8 2) (flT nn n c (.sl true 2 1 0 1 q none) (vi i) .unk (.ptr 4 1 0 0) (vi k) .unk) ⟨[flN bss, flZ zs] ++ [flG 2 g] ++ flM es, 5⟩ = some (.head (hd Try.f8 3) (flT nn n c (.sl true 2 1 0 1 q none) (vi i) .unk .unk .unk (vi 0)) ⟨[flN bss, flZ (seeS zs es), flG 2 g], 19⟩ (conj [!decide (k < Int.ofNat q), decide (zs.length = 225), decide (KD es), Nat.ble es.length 4096])) := by kernel_rfl
theorem f4Y (bss : List (List Bool)) (nn : Bool) (n : Nat) (c : Option Nat) (zs : List Int) (g : List Int) (q : Nat) (i k : Int) : HO_ Try.prog (L_fl Try.prog Try.f45 Try.f47) Try.f8 (flC 19) [] 99 [1, 0] (hd Try.f8 3) (flT nn n c (.sl true 2 1 0 1 q none) (vi i) .unk .unk .unk (vi k)) ⟨[flN bss, flZ zs] ++ [flG 2 g], 3⟩ = some (.head (hd Try.f8 3) (flT nn n c (.sl true 2 1 0 1 q none) (vi i) .unk .unk .unk (vi (up1 k))) ⟨[flN bss, flZ zs, flG 2 g], 19⟩ (conj [decide (k < 6), decide (zs.length = 225), decide (zs.length = 225), !!decide (rchF zs 3 k < rchF zs 3 (up1 k)) || decide (zs.length = 225), !(bif decide (rchF zs 3 k < rchF zs 3 (up1 k)) then true else decide (diedF zs 3 k < 0))])) := by kernel_rfl
theorem f4eY (bss : List (List Bool)) (nn : Bool) (n : Nat) (c : Option Nat) (zs : List Int) (g : List Int) (q : Nat) (i k : Int) : HO_ Try.prog (L_fl Try.prog Try.f45 Try.f47) Try.f8 (flC 19) [] 99 [0] (hd Try.f8 3) (flT nn n c (.sl true 2 1 0 1 q none) (vi i) .unk .unk .unk (vi k)) ⟨[flN bss, flZ zs] ++ [flG 2 g], 3⟩ = some (.head (hd Try.f8 0) (flT nn n c (.sl true 2 1 0 1 q none) (vi (up1 i)) .unk .unk .unk .unk) ⟨[flN bss, flZ zs, flG 2 g], 19⟩ (conj [!decide (k < 6)])) := by kernel_rfl
end Go.Proofs.Ytbjealobiblabaa

namespace Go.Proofs.Ytbjealobiblabaa
open Go Go.ChangeShapes Go.WideShapes Go.ChangeAt Go.RowKit Go.Deep
abbrev H5 := Int × Int × Int × Int × Bool
abbrev h5C (hs : List H5) : Cont := .rows [.ints .i64 (hs.map fun h => h.1), .ints .i64 (hs.map fun h => h.2.1), .ints .i64 (hs.map fun h => h.2.2.1), .ints .i64 (hs.map fun h => h.2.2.2.1), .bools (hs.map fun h => h.2.2.2.2)]
theorem h5_col {β : Type} (f : H5 → β) (d : β) (d5 : H5) {hs : List H5} {r : Nat} (h : r < hs.length) : (hs.map f).getD r d = f (hs.getD r d5) := by
  rw [List.getD_eq_getElem?_getD, List.getD_eq_getElem?_getD, List.getElem?_map, List.getElem?_eq_getElem h]; rfl
theorem open_headcell {H : Type} {enc : TypeId × Value → H} {P : Program} {w : World} {base : Nat} {held : Bool} {t e ti tb : TypeId} {u : Value} (ht : P.underlying t = some (.slice e)) (hi : P.underlying ti = some (.int .i64)) (hb : P.underlying tb = some .bool) (hl : leavesT P 9 e = some [ti, ti, ti, ti, tb]) (hC : P.cellsOf e = 5)
    (h : ∃ m y, DataW.trod enc P w base (fun _ => true) held m t [u] = some y) :
    ∃ (hs : List H5) (A : Option Addr) (c : Nat), u = .slice A hs.length c ∧ hs.length ≤ c ∧ c ≤ maxLen ∧ (0 < hs.length → ∃ b o, A = some ⟨b, o, none⟩ ∧ (∃ cur e fz, w.heap[b]? = some (.cells cur e fz)) ∧ ∀ (ρ' : Rho) (nx' : Nat), (h5C hs).rel ρ' nx' (fun t => w.cell? ⟨b, o + t, none⟩)) := by
  obtain ⟨A, n, c, rfl, h1, h2, h3⟩ := open_slcell ht hl hC (by simp) h
  by_cases hn : 0 < n
  · obtain ⟨b, o, rfl, hbb, hii⟩ := h3 hn
    obtain ⟨hs, hz, hp⟩ := lists_of ((0, 0, 0, 0, false) : H5) (p := fun j h => w.cell? ⟨b, o + (j * 5 + 0), none⟩ = some (.int .i64 h.1) ∧ w.cell? ⟨b, o + (j * 5 + 1), none⟩ = some (.int .i64 h.2.1) ∧ w.cell? ⟨b, o + (j * 5 + 2), none⟩ = some (.int .i64 h.2.2.1) ∧ w.cell? ⟨b, o + (j * 5 + 3), none⟩ = some (.int .i64 h.2.2.2.1) ∧ w.cell? ⟨b, o + (j * 5 + 4), none⟩ = some (.bool h.2.2.2.2)) n fun j hj => by
      obtain ⟨v0, g0, k0⟩ := hii j hj 0 ti rfl
      obtain ⟨v1, g1, k1⟩ := hii j hj 1 ti rfl
      obtain ⟨v2, g2, k2⟩ := hii j hj 2 ti rfl
      obtain ⟨v3, g3, k3⟩ := hii j hj 3 ti rfl
      obtain ⟨v4, g4, k4⟩ := hii j hj 4 tb rfl
      obtain ⟨z0, rfl, _⟩ := field_int hi k0
      obtain ⟨z1, rfl, _⟩ := field_int hi k1
      obtain ⟨z2, rfl, _⟩ := field_int hi k2
      obtain ⟨z3, rfl, _⟩ := field_int hi k3
      obtain ⟨z4, rfl⟩ := field_bool hb k4
      exact ⟨(z0, z1, z2, z3, z4), g0, g1, g2, g3, g4⟩
    subst hz
    refine ⟨hs, _, c, rfl, h1, h2, fun _ => ⟨b, o, rfl, cell_cells (hp 0 hn).1, fun ρ nx r c a ha => ?_⟩⟩
    have hq : ∀ (cl : Col) (v : Value), Cont.at (h5C hs) r c = some (cl.at r) → cl.at r = (.val v, decide (r < hs.length)) → (r < hs.length → w.cell? ⟨b, o + (r * 5 + c), none⟩ = some v) → c < 5 → c < (h5C hs).width ∧ ∃ x, w.cell? ⟨b, o + (r * (h5C hs).width + c), none⟩ = some x ∧ AV.rel ρ nx a x := fun cl v e1 e2 e3 hc => by
      rw [e1, e2] at ha
      simp only [Option.some.injEq, Prod.mk.injEq, decide_eq_true_eq] at ha
      obtain ⟨rfl, hlt⟩ := ha
      exact ⟨hc, v, e3 hlt, by simp [AV.rel]⟩
    match c, ha, hq with
    | 0, _, hq => exact hq (.ints .i64 (hs.map fun h => h.1)) (.int .i64 ((hs.map fun h => h.1).getD r 0)) rfl (by simp only [Col.at, List.length_map]) (fun hlt => by rw [h5_col _ _ (0, 0, 0, 0, false) hlt]; exact (hp r hlt).1) (by omega)
    | 1, _, hq => exact hq (.ints .i64 (hs.map fun h => h.2.1)) (.int .i64 ((hs.map fun h => h.2.1).getD r 0)) rfl (by simp only [Col.at, List.length_map]) (fun hlt => by rw [h5_col _ _ (0, 0, 0, 0, false) hlt]; exact (hp r hlt).2.1) (by omega)
    | 2, _, hq => exact hq (.ints .i64 (hs.map fun h => h.2.2.1)) (.int .i64 ((hs.map fun h => h.2.2.1).getD r 0)) rfl (by simp only [Col.at, List.length_map]) (fun hlt => by rw [h5_col _ _ (0, 0, 0, 0, false) hlt]; exact (hp r hlt).2.2.1) (by omega)
    | 3, _, hq => exact hq (.ints .i64 (hs.map fun h => h.2.2.2.1)) (.int .i64 ((hs.map fun h => h.2.2.2.1).getD r 0)) rfl (by simp only [Col.at, List.length_map]) (fun hlt => by rw [h5_col _ _ (0, 0, 0, 0, false) hlt]; exact (hp r hlt).2.2.2.1) (by omega)
    | 4, _, hq => exact hq (.bools (hs.map fun h => h.2.2.2.2)) (.bool ((hs.map fun h => h.2.2.2.2).getD r false)) rfl (by simp only [Col.at, List.length_map]) (fun hlt => by rw [h5_col _ _ (0, 0, 0, 0, false) hlt]; exact (hp r hlt).2.2.2.2) (by omega)
    | c + 5, ha, _ => cases ha
  · have h0 : n = 0 := by omega
    subst h0
    exact ⟨[], A, c, rfl, h1, h2, fun h => absurd h (by simp)⟩
set_option maxRecDepth 100000 in
theorem open_acts {H : Type} {enc : TypeId × Value → H} {P : Program} {w : World} {base : Nat} {held : Bool} {r : Reach} {b0 : Nat} {t s t1 t2 e ti tb : TypeId} {v : Value} {d : DataW H} {ps : List MemPlace} (ht : P.underlying t = some (.slice s)) (hl1 : leavesT P 9 s = some [t1, t2]) (hC1 : P.cellsOf s = 2)
    (ht1 : P.underlying t1 = some (.slice ti)) (hit : leavesT P 9 ti = some [ti]) (hiC : P.cellsOf ti = 1) (ht2 : P.underlying t2 = some (.slice e)) (hi : P.underlying ti = some (.int .i64)) (hb : P.underlying tb = some .bool) (hl : leavesT P 9 e = some [ti, ti, ti, ti, tb]) (hC : P.cellsOf e = 5)
    (hval : Value.okWide P w r b0 t v) (h : DataW.Trod enc P w base (fun _ => true) held t v d ps) :
    ∃ (A : Option Addr) (n c : Nat) (zss : List (List Int)) (hss : List (List H5)) (i : LI), v = .slice A n c ∧ n ≤ c ∧ c ≤ 9223372036854775807 ∧ zss.length = n ∧ hss.length = n ∧ NestIn w A n [.ints .i64 zss, .heads hss] i := by
  obtain ⟨A, n, c, rfl, h1, h2, h3⟩ := open_nest ht hl1 hC1 (by simp) hval h
  have hc : c ≤ 9223372036854775807 := by unfold maxLen at h2; omega
  by_cases hn : 0 < n
  · obtain ⟨b, o, rfl, hbb, hii⟩ := h3 hn
    obtain ⟨l, tg, g1, g2, g3, g4⟩ := nest_of ([] : List Int) List.length (fun zs => .col (.ints .i64 zs)) (fun _ => True) (w := w) n (fun j => w.cell? ⟨b, o + (j * 2 + 0), none⟩) fun j hj => by
      obtain ⟨u, f1, f2⟩ := hii j hj 0 t1 rfl
      obtain ⟨zs, A', c', rfl, e1, e2, e3⟩ := open_intcell ht1 hi hit hiC f2
      exact ⟨zs, A', c', f1, e1, trivial, e3⟩
    obtain ⟨l', tg', g1', g2', g3', g4'⟩ := nest_of ([] : List H5) List.length (fun hs => h5C hs) (fun _ => True) (w := w) n (fun j => w.cell? ⟨b, o + (j * 2 + 1), none⟩) fun j hj => by
      obtain ⟨u, f1, f2⟩ := hii j hj 1 t2 rfl
      obtain ⟨zs, A', c', rfl, e1, e2, e3⟩ := open_headcell ht2 hi hb hl hC f2
      exact ⟨zs, A', c', f1, e1, trivial, e3⟩
    obtain ⟨i, hin⟩ := nest_in (w := w) (A := some ⟨b, o, none⟩) (n := n) (cs := [.ints .i64 l, .heads l']) (tg := tg ||| tg') (fun nc hnc => by
      rcases List.mem_cons.1 hnc with rfl | hnc
      · exact g1
      · rw [List.mem_singleton.1 hnc]; exact g1') (by simp) fun _ => ⟨b, o, rfl, hbb, fun g hg => by
        rw [Nat.testBit_or, Bool.or_eq_true] at hg
        exact hg.elim (g3 g) (g3' g), fun c nc j hcs hj => by
      match c, hcs with
      | 0, hcs =>
        simp at hcs
        subst hcs
        obtain ⟨x, f1, f2⟩ := g4 j hj
        exact ⟨x, f1, f2.more fun g hg => by rw [Nat.testBit_or, hg]; rfl⟩
      | 1, hcs =>
        simp at hcs
        subst hcs
        obtain ⟨x, f1, f2⟩ := g4' j hj
        exact ⟨x, f1, f2.more fun g hg => by rw [Nat.testBit_or, hg, Bool.or_true]⟩
      | c + 2, hcs => simp at hcs⟩
    exact ⟨_, n, c, l, l', i, rfl, h1, hc, g1, g1', hin⟩
  · have h0 : n = 0 := by omega
    subst h0
    obtain ⟨i, hin⟩ := nest_in (w := w) (A := A) (n := 0) (cs := [.ints .i64 [], .heads []]) (tg := 0) (fun nc hnc => by
      rcases List.mem_cons.1 hnc with rfl | hnc
      · rfl
      · rw [List.mem_singleton.1 hnc]; rfl) (by simp) fun h => absurd h (by omega)
    exact ⟨A, 0, c, [], [], i, rfl, h1, hc, rfl, rfl, hin⟩
end Go.Proofs.Ytbjealobiblabaa

namespace Go.Proofs.Ytbjealobiblabaa
open Go Go.RowKit
set_option maxRecDepth 100000
abbrev st (zs : List Int) : AV := .agg ((expl 224 zs).map fun z => .val (.int .i64 z))
def stateOf (cs : List AV) : Option (List Int) := match Nat.beq cs.length 224 with
  | true => match allInts cs with
    | some (.i64, zs) => some zs
    | _ => none
  | false => none
theorem stateOf_eq {cs : List AV} {zs : List Int} (h : stateOf cs = some zs) : (.agg cs : AV) = st zs ∧ zs.length = 224 := by
  unfold stateOf at h
  split at h
  · rename_i hl
    split at h
    · rename_i zs' hz
      cases h
      have e := allInts_eq hz
      have hl := Nat.eq_of_beq_eq_true hl
      rw [e, List.length_map] at hl
      exact ⟨by rw [st, expl_whole hl, e], hl⟩
    · cases h
  · cases h
theorem st_ground (zs : List Int) (h : zs.length = 224) : AV.ground (st zs) = true := by
  rw [st, expl_whole h]
  show AV.grounds _ = true
  clear h
  induction zs with
  | nil => rfl
  | cons z zs ih => simpa [AV.grounds, AV.ground] using ih
def outR (s a : Int) : Bool := bif bif bif decide (s < 0) then true else decide (31 < s) then true else decide (a < 0) then true else decide (6 < a)
theorem outR_is (s a : Int) : outR s a = !survive_is_0 s a := by
  cases h : survive_is_0 s a with
  | true =>
    obtain ⟨⟨h1, h2⟩, h3, h4⟩ := is_iff.1 h
    unfold outR
    rw [decide_eq_false (show ¬ s < 0 by omega), decide_eq_false (show ¬ 31 < s by omega), decide_eq_false (show ¬ a < 0 by omega), decide_eq_false (show ¬ 6 < a by omega)]
    rfl
  | false =>
    have hn : ¬ ((0 ≤ s ∧ s < 32) ∧ 0 ≤ a ∧ a < 7) := fun h' => by rw [is_iff.2 h'] at h; cases h
    unfold outR
    by_cases h1 : s < 0
    · rw [decide_eq_true h1]; rfl
    · by_cases h2 : 31 < s
      · rw [decide_eq_false h1, decide_eq_true h2]; rfl
      · by_cases h3 : a < 0
        · rw [decide_eq_false h1, decide_eq_false h2, decide_eq_true h3]; rfl
        · rw [decide_eq_false h1, decide_eq_false h2, decide_eq_false h3, decide_eq_true (show 6 < a by omega)]; rfl
theorem rr_run (zs : List Int) (s a : Int) : F_ Try.prog [] Try.f56 [] [] 99 [st zs, vi s, vi a] noMem =
    bif outR s a then some (.ret (vi 0) ⟨[], 99⟩ true)
    else some (.ret (vi ((expl 224 zs).getD (svI s a) 0)) ⟨[], 99⟩ (conj [decide (0 ≤ s), decide (s.toNat < 32), decide (0 ≤ a), decide (a.toNat < 7), decide (svI s a < 224)])) := by kernel_rfl
def e_rr : Spec := fun _ args => match args with
  | [.agg cs, .val (.int .i64 s), .val (.int .i64 a)] => match stateOf cs with
    | some zs => some (vi (rchF zs s a), none, [])
    | none => none
  | _ => none
theorem ok_rr : SpecOk Try.prog 56 e_rr := fun m args v mo bs h hb => by
  unfold e_rr at h
  split at h
  · rename_i cs s a
    split at h <;> cases h
    rename_i zs hz
    obtain ⟨e, hl⟩ := stateOf_eq hz
    have g : F_ Try.prog [] Try.f56 [] [] 99 [st zs, vi s, vi a] noMem = some (.ret (vi (rchF zs s a)) ⟨[], 99⟩ true) := by
      rw [rr_run, outR_is, expl_whole hl]
      unfold rchF
      cases hs : survive_is_0 s a with
      | false => rfl
      | true =>
        obtain ⟨⟨h1, h2⟩, h3, h4⟩ := is_iff.1 hs
        have := svI_lt hs
        rw [decide_eq_true h1, decide_eq_true (show s.toNat < 32 by omega), decide_eq_true h3, decide_eq_true (show a.toNat < 7 by omega), decide_eq_true this]
        rfl
    rw [e]
    exact pure_fn (c := bodyOf Try.f56) env_nil mixedP (fun xs w => Try.call56 xs w) Try.func56 rfl g (by simp only [AV.grounds, st_ground zs hl]; rfl) rfl
  · cases h
abbrev L_rr : List (FuncId × Spec) := [(56, e_rr)]
theorem hE_rr : ESound Try.prog (envOf L_rr) := env_cons ok_rr env_nil
-- Half, Died, Row, See
def e_is2 : Spec := fun _ args => match args with
  | [.val (.int .i64 s), .val (.int .i64 a)] => some (vb (bif decide (0 ≤ a) then decide (a < 7) else false), none, [decide (0 ≤ s), decide (s < 32)])
  | _ => none
theorem ok_is2 : SpecOk Try.prog 76 e_is2 := fun m args v mo bs h hb => by
  unfold e_is2 at h
  split at h
  · rename_i s a
    cases h
    simp only [List.all_cons, List.all_nil, id, Bool.and_true, Bool.and_eq_true, decide_eq_true_eq] at hb
    have e : survive_is_0 s a = (bif decide (0 ≤ a) then decide (a < 7) else false) := by
      unfold survive_is_0
      rw [decide_eq_true hb.1, decide_eq_true hb.2]
      cases decide (0 ≤ a) <;> rfl
    rw [← e]
    exact pure_fn (c := bodyOf Try.f76) hE_census_Of mixedP (fun xs w => Try.call76 xs w) Try.func76 rfl (t_survive_is _ _) rfl rfl
  · cases h
abbrev L_h : List (FuncId × Spec) := [(49, e_rch), (76, e_is2)]
theorem hE_h : ESound Try.prog (envOf L_h) := env_cons ok_rch (env_cons ok_is2 env_nil)
abbrev svR (zs : List Int) : Nat × Option ABlk := (0, some ⟨false, false, .col (.ints .i64 zs)⟩)
/-- The first test that fails. -/
def hT (c : Nat → Bool) : Int := (bif c 0 then (bif c 1 then (bif c 2 then (bif c 3 then (bif c 4 then (bif c 5 then 6 else 5) else 4) else 3) else 2) else 1) else 0)
def cH (zs : List Int) (s : Int) (k : Nat) : Bool := decide (IntKind.i64.wrap (rchF zs s 0 - zs.getD (svI s ((k + 1 : Nat) : Int)) 0) ≤ zs.getD (svI s ((k + 1 : Nat) : Int)) 0)
def cR (zs : List Int) (s : Int) (k : Nat) : Bool := decide (rchF zs s 0 ≤ IntKind.i64.wrap (2 * zs.getD (svI s ((k + 1 : Nat) : Int)) 0))
def halfF (zs : List Int) (s : Int) : Int := bif rchF zs s 0 == 0 then -1 else hT (cH zs s)
def rhalfF (zs : List Int) (s : Int) : Int := bif rchF zs s 0 == 0 then -1 else hT (cR zs s)
theorem half_run (zs : List Int) (s : Int) : F_ Try.prog L_h Try.f53 [] [] 99 [.ptr 0 1 0 0, vi s] ⟨[svR zs], 1⟩ =
    bif rchF zs s 0 == 0 then some (.ret (vi (-1)) ⟨[], 99⟩ (conj [decide (zs.length = 225)])) else
    (bif cH zs s 0 then (bif cH zs s 1 then (bif cH zs s 2 then (bif cH zs s 3 then (bif cH zs s 4 then (bif cH zs s 5 then some (.ret (vi 6) ⟨[], 99⟩ (conj [decide (zs.length = 225), decide (0 ≤ s), decide (s < 32), false || decide (0 ≤ s), false || decide (s.toNat < 32), false || decide (svI s 1 < zs.length), false || decide (0 ≤ s), false || decide (s.toNat < 32), false || decide (svI s 1 < zs.length), decide (0 ≤ s), decide (s < 32), false || decide (0 ≤ s), false || decide (s.toNat < 32), false || decide (svI s 2 < zs.length), false || decide (0 ≤ s), false || decide (s.toNat < 32), false || decide (svI s 2 < zs.length), decide (0 ≤ s), decide (s < 32), false || decide (0 ≤ s), false || decide (s.toNat < 32), false || decide (svI s 3 < zs.length), false || decide (0 ≤ s), false || decide (s.toNat < 32), false || decide (svI s 3 < zs.length), decide (0 ≤ s), decide (s < 32), false || decide (0 ≤ s), false || decide (s.toNat < 32), false || decide (svI s 4 < zs.length), false || decide (0 ≤ s), false || decide (s.toNat < 32), false || decide (svI s 4 < zs.length), decide (0 ≤ s), decide (s < 32), false || decide (0 ≤ s), false || decide (s.toNat < 32), false || decide (svI s 5 < zs.length), false || decide (0 ≤ s), false || decide (s.toNat < 32), false || decide (svI s 5 < zs.length), decide (0 ≤ s), decide (s < 32), false || decide (0 ≤ s), false || decide (s.toNat < 32), false || decide (svI s 6 < zs.length), false || decide (0 ≤ s), false || decide (s.toNat < 32), false || decide (svI s 6 < zs.length), decide (0 ≤ s), decide (s < 32)])) else some (.ret (vi 5) ⟨[], 99⟩ (conj [decide (zs.length = 225), decide (0 ≤ s), decide (s < 32), false || decide (0 ≤ s), false || decide (s.toNat < 32), false || decide (svI s 1 < zs.length), false || decide (0 ≤ s), false || decide (s.toNat < 32), false || decide (svI s 1 < zs.length), decide (0 ≤ s), decide (s < 32), false || decide (0 ≤ s), false || decide (s.toNat < 32), false || decide (svI s 2 < zs.length), false || decide (0 ≤ s), false || decide (s.toNat < 32), false || decide (svI s 2 < zs.length), decide (0 ≤ s), decide (s < 32), false || decide (0 ≤ s), false || decide (s.toNat < 32), false || decide (svI s 3 < zs.length), false || decide (0 ≤ s), false || decide (s.toNat < 32), false || decide (svI s 3 < zs.length), decide (0 ≤ s), decide (s < 32), false || decide (0 ≤ s), false || decide (s.toNat < 32), false || decide (svI s 4 < zs.length), false || decide (0 ≤ s), false || decide (s.toNat < 32), false || decide (svI s 4 < zs.length), decide (0 ≤ s), decide (s < 32), false || decide (0 ≤ s), false || decide (s.toNat < 32), false || decide (svI s 5 < zs.length), false || decide (0 ≤ s), false || decide (s.toNat < 32), false || decide (svI s 5 < zs.length), decide (0 ≤ s), decide (s < 32), false || decide (0 ≤ s), false || decide (s.toNat < 32), false || decide (svI s 6 < zs.length), false || decide (0 ≤ s), false || decide (s.toNat < 32), false || decide (svI s 6 < zs.length)]))) else some (.ret (vi 4) ⟨[], 99⟩ (conj [decide (zs.length = 225), decide (0 ≤ s), decide (s < 32), false || decide (0 ≤ s), false || decide (s.toNat < 32), false || decide (svI s 1 < zs.length), false || decide (0 ≤ s), false || decide (s.toNat < 32), false || decide (svI s 1 < zs.length), decide (0 ≤ s), decide (s < 32), false || decide (0 ≤ s), false || decide (s.toNat < 32), false || decide (svI s 2 < zs.length), false || decide (0 ≤ s), false || decide (s.toNat < 32), false || decide (svI s 2 < zs.length), decide (0 ≤ s), decide (s < 32), false || decide (0 ≤ s), false || decide (s.toNat < 32), false || decide (svI s 3 < zs.length), false || decide (0 ≤ s), false || decide (s.toNat < 32), false || decide (svI s 3 < zs.length), decide (0 ≤ s), decide (s < 32), false || decide (0 ≤ s), false || decide (s.toNat < 32), false || decide (svI s 4 < zs.length), false || decide (0 ≤ s), false || decide (s.toNat < 32), false || decide (svI s 4 < zs.length), decide (0 ≤ s), decide (s < 32), false || decide (0 ≤ s), false || decide (s.toNat < 32), false || decide (svI s 5 < zs.length), false || decide (0 ≤ s), false || decide (s.toNat < 32), false || decide (svI s 5 < zs.length)]))) else some (.ret (vi 3) ⟨[], 99⟩ (conj [decide (zs.length = 225), decide (0 ≤ s), decide (s < 32), false || decide (0 ≤ s), false || decide (s.toNat < 32), false || decide (svI s 1 < zs.length), false || decide (0 ≤ s), false || decide (s.toNat < 32), false || decide (svI s 1 < zs.length), decide (0 ≤ s), decide (s < 32), false || decide (0 ≤ s), false || decide (s.toNat < 32), false || decide (svI s 2 < zs.length), false || decide (0 ≤ s), false || decide (s.toNat < 32), false || decide (svI s 2 < zs.length), decide (0 ≤ s), decide (s < 32), false || decide (0 ≤ s), false || decide (s.toNat < 32), false || decide (svI s 3 < zs.length), false || decide (0 ≤ s), false || decide (s.toNat < 32), false || decide (svI s 3 < zs.length), decide (0 ≤ s), decide (s < 32), false || decide (0 ≤ s), false || decide (s.toNat < 32), false || decide (svI s 4 < zs.length), false || decide (0 ≤ s), false || decide (s.toNat < 32), false || decide (svI s 4 < zs.length)]))) else some (.ret (vi 2) ⟨[], 99⟩ (conj [decide (zs.length = 225), decide (0 ≤ s), decide (s < 32), false || decide (0 ≤ s), false || decide (s.toNat < 32), false || decide (svI s 1 < zs.length), false || decide (0 ≤ s), false || decide (s.toNat < 32), false || decide (svI s 1 < zs.length), decide (0 ≤ s), decide (s < 32), false || decide (0 ≤ s), false || decide (s.toNat < 32), false || decide (svI s 2 < zs.length), false || decide (0 ≤ s), false || decide (s.toNat < 32), false || decide (svI s 2 < zs.length), decide (0 ≤ s), decide (s < 32), false || decide (0 ≤ s), false || decide (s.toNat < 32), false || decide (svI s 3 < zs.length), false || decide (0 ≤ s), false || decide (s.toNat < 32), false || decide (svI s 3 < zs.length)]))) else some (.ret (vi 1) ⟨[], 99⟩ (conj [decide (zs.length = 225), decide (0 ≤ s), decide (s < 32), false || decide (0 ≤ s), false || decide (s.toNat < 32), false || decide (svI s 1 < zs.length), false || decide (0 ≤ s), false || decide (s.toNat < 32), false || decide (svI s 1 < zs.length), decide (0 ≤ s), decide (s < 32), false || decide (0 ≤ s), false || decide (s.toNat < 32), false || decide (svI s 2 < zs.length), false || decide (0 ≤ s), false || decide (s.toNat < 32), false || decide (svI s 2 < zs.length)]))) else some (.ret (vi 0) ⟨[], 99⟩ (conj [decide (zs.length = 225), decide (0 ≤ s), decide (s < 32), false || decide (0 ≤ s), false || decide (s.toNat < 32), false || decide (svI s 1 < zs.length), false || decide (0 ≤ s), false || decide (s.toNat < 32), false || decide (svI s 1 < zs.length)]))) := by kernel_rfl
theorem rhalf_run (zs : List Int) (s : Int) : F_ Try.prog L_rr Try.f54 [] [] 99 [st zs, vi s] noMem =
    bif rchF (expl 224 zs) s 0 == 0 then some (.ret (vi (-1)) ⟨[], 99⟩ true) else
    (bif cR (expl 224 zs) s 0 then (bif cR (expl 224 zs) s 1 then (bif cR (expl 224 zs) s 2 then (bif cR (expl 224 zs) s 3 then (bif cR (expl 224 zs) s 4 then (bif cR (expl 224 zs) s 5 then some (.ret (vi 6) ⟨[], 99⟩ (conj [false || decide (0 ≤ s), false || decide (s.toNat < 32), false || decide (svI s 1 < 224), false || decide (0 ≤ s), false || decide (s.toNat < 32), false || decide (svI s 2 < 224), false || decide (0 ≤ s), false || decide (s.toNat < 32), false || decide (svI s 3 < 224), false || decide (0 ≤ s), false || decide (s.toNat < 32), false || decide (svI s 4 < 224), false || decide (0 ≤ s), false || decide (s.toNat < 32), false || decide (svI s 5 < 224), false || decide (0 ≤ s), false || decide (s.toNat < 32), false || decide (svI s 6 < 224)])) else some (.ret (vi 5) ⟨[], 99⟩ (conj [false || decide (0 ≤ s), false || decide (s.toNat < 32), false || decide (svI s 1 < 224), false || decide (0 ≤ s), false || decide (s.toNat < 32), false || decide (svI s 2 < 224), false || decide (0 ≤ s), false || decide (s.toNat < 32), false || decide (svI s 3 < 224), false || decide (0 ≤ s), false || decide (s.toNat < 32), false || decide (svI s 4 < 224), false || decide (0 ≤ s), false || decide (s.toNat < 32), false || decide (svI s 5 < 224), false || decide (0 ≤ s), false || decide (s.toNat < 32), false || decide (svI s 6 < 224)]))) else some (.ret (vi 4) ⟨[], 99⟩ (conj [false || decide (0 ≤ s), false || decide (s.toNat < 32), false || decide (svI s 1 < 224), false || decide (0 ≤ s), false || decide (s.toNat < 32), false || decide (svI s 2 < 224), false || decide (0 ≤ s), false || decide (s.toNat < 32), false || decide (svI s 3 < 224), false || decide (0 ≤ s), false || decide (s.toNat < 32), false || decide (svI s 4 < 224), false || decide (0 ≤ s), false || decide (s.toNat < 32), false || decide (svI s 5 < 224)]))) else some (.ret (vi 3) ⟨[], 99⟩ (conj [false || decide (0 ≤ s), false || decide (s.toNat < 32), false || decide (svI s 1 < 224), false || decide (0 ≤ s), false || decide (s.toNat < 32), false || decide (svI s 2 < 224), false || decide (0 ≤ s), false || decide (s.toNat < 32), false || decide (svI s 3 < 224), false || decide (0 ≤ s), false || decide (s.toNat < 32), false || decide (svI s 4 < 224)]))) else some (.ret (vi 2) ⟨[], 99⟩ (conj [false || decide (0 ≤ s), false || decide (s.toNat < 32), false || decide (svI s 1 < 224), false || decide (0 ≤ s), false || decide (s.toNat < 32), false || decide (svI s 2 < 224), false || decide (0 ≤ s), false || decide (s.toNat < 32), false || decide (svI s 3 < 224)]))) else some (.ret (vi 1) ⟨[], 99⟩ (conj [false || decide (0 ≤ s), false || decide (s.toNat < 32), false || decide (svI s 1 < 224), false || decide (0 ≤ s), false || decide (s.toNat < 32), false || decide (svI s 2 < 224)]))) else some (.ret (vi 0) ⟨[], 99⟩ (conj [false || decide (0 ≤ s), false || decide (s.toNat < 32), false || decide (svI s 1 < 224)]))) := by kernel_rfl
theorem rch_ne {zs : List Int} {s a : Int} (h : (rchF zs s a == 0) = false) : survive_is_0 s a = true := by
  cases hs : survive_is_0 s a with
  | true => rfl
  | false => rw [rchF, hs] at h; cases h
theorem half_val (zs : List Int) (s : Int) (hz : zs.length = 225) : F_ Try.prog L_h Try.f53 [] [] 99 [.ptr 0 1 0 0, vi s] ⟨[svR zs], 1⟩ = some (.ret (vi (halfF zs s)) ⟨[], 99⟩ true) := by
  rw [half_run]
  unfold halfF
  cases h0 : rchF zs s 0 == 0 with
  | true => rw [decide_eq_true hz]; rfl
  | false =>
    obtain ⟨⟨h1, h2⟩, _⟩ := is_iff.1 (rch_ne h0)
    have hv : ∀ j : Nat, j ≤ 6 → decide (svI s (j : Int) < zs.length) = true := fun j hj => decide_eq_true (by
      obtain ⟨x, rfl⟩ := Int.eq_ofNat_of_zero_le h1
      rw [svI_nat]; omega)
    have v1 := hv 1 (by omega)
    have v2 := hv 2 (by omega)
    have v3 := hv 3 (by omega)
    have v4 := hv 4 (by omega)
    have v5 := hv 5 (by omega)
    have v6 := hv 6 (by omega)
    have e1 : decide (0 ≤ s) = true := decide_eq_true h1
    have e2 : decide (s < 32) = true := decide_eq_true h2
    have e3 : decide (s.toNat < 32) = true := decide_eq_true (by omega)
    have e4 := decide_eq_true hz
    unfold hT
    generalize cH zs s = c
    simp only [cond_false]
    simp only [Int.cast_ofNat_Int] at v1 v2 v3 v4 v5 v6
    rw [v1, e1, e2, e3, e4]
    cases c 0 with
    | false => rfl
    | true =>
      rw [v2]
      cases c 1 with
      | false => rfl
      | true =>
        rw [v3]
        cases c 2 with
        | false => rfl
        | true =>
          rw [v4]
          cases c 3 with
          | false => rfl
          | true =>
            rw [v5]
            cases c 4 with
            | false => rfl
            | true =>
              rw [v6]
              cases c 5 <;> rfl
theorem rhalf_val (zs : List Int) (s : Int) (hz : zs.length = 224) : F_ Try.prog L_rr Try.f54 [] [] 99 [st zs, vi s] noMem = some (.ret (vi (rhalfF zs s)) ⟨[], 99⟩ true) := by
  rw [rhalf_run, expl_whole hz]
  unfold rhalfF
  cases h0 : rchF zs s 0 == 0 with
  | true => rfl
  | false =>
    obtain ⟨⟨h1, h2⟩, _⟩ := is_iff.1 (rch_ne h0)
    have hv : ∀ j : Nat, j ≤ 6 → decide (svI s (j : Int) < 224) = true := fun j hj => decide_eq_true (by
      obtain ⟨x, rfl⟩ := Int.eq_ofNat_of_zero_le h1
      rw [svI_nat]; omega)
    have v1 := hv 1 (by omega)
    have v2 := hv 2 (by omega)
    have v3 := hv 3 (by omega)
    have v4 := hv 4 (by omega)
    have v5 := hv 5 (by omega)
    have v6 := hv 6 (by omega)
    have e1 : decide (0 ≤ s) = true := decide_eq_true h1
    have e3 : decide (s.toNat < 32) = true := decide_eq_true (by omega)
    unfold hT
    generalize cR zs s = c
    simp only [cond_false]
    simp only [Int.cast_ofNat_Int] at v1 v2 v3 v4 v5 v6
    rw [v1, e1, e3]
    cases c 0 with
    | false => rfl
    | true =>
      rw [v2]
      cases c 1 with
      | false => rfl
      | true =>
        rw [v3]
        cases c 2 with
        | false => rfl
        | true =>
          rw [v4]
          cases c 3 with
          | false => rfl
          | true =>
            rw [v5]
            cases c 4 with
            | false => rfl
            | true =>
              rw [v6]
              cases c 5 <;> rfl
def e_half : Spec := fun m args => match args with
  | [.ptr l 1 0 0, .val (.int .i64 s)] => match look m.bl l with
    | some ⟨_, _, .col (.ints .i64 zs)⟩ => some (vi (halfF zs s), none, [decide (zs.length = 225)])
    | _ => none
  | _ => none
theorem ok_half : SpecOk Try.prog 53 e_half := fun m args v mo bs h hb => by
  unfold e_half at h
  split at h
  · rename_i l s
    split at h <;> cases h
    rename_i _ op zs hl
    have hz : zs.length = 225 := by simpa using hb
    exact lift_p (ar := []) (br := [vi s]) hl rfl (fsound (c := bodyOf Try.f53) (fun xs w => Try.call53 xs w) Try.func53 rfl (F_ret hE_h mixedP rfl rfl (half_val zs s hz))) rfl rfl rfl rfl
  · cases h
def e_rhalf : Spec := fun _ args => match args with
  | [.agg cs, .val (.int .i64 s)] => match stateOf cs with
    | some zs => some (vi (rhalfF zs s), none, [])
    | none => none
  | _ => none
theorem ok_rhalf : SpecOk Try.prog 54 e_rhalf := fun m args v mo bs h hb => by
  unfold e_rhalf at h
  split at h
  · rename_i cs s
    split at h <;> cases h
    rename_i zs hz
    obtain ⟨e, hl⟩ := stateOf_eq hz
    rw [e]
    exact pure_fn (c := bodyOf Try.f54) hE_rr mixedP (fun xs w => Try.call54 xs w) Try.func54 rfl (rhalf_val zs s hl) (by simp only [AV.grounds, st_ground zs hl]; rfl) rfl
  · cases h
-- Died
def outD (s a : Int) : Bool := bif bif bif decide (s < 0) then true else decide (31 < s) then true else decide (a < -1) then true else decide (5 < a)
def rdF (zs : List Int) (s a : Int) : Int := bif outD s a then 0 else IntKind.i64.wrap (rchF zs s a - rchF zs s (IntKind.i64.wrap (a + 1)))
theorem rd_run (zs : List Int) (s a : Int) : F_ Try.prog L_rr Try.f57 [] [] 99 [st zs, vi s, vi a] noMem =
    bif outD s a then some (.ret (vi 0) ⟨[], 99⟩ true)
    else some (.ret (vi (IntKind.i64.wrap (rchF (expl 224 zs) s a - rchF (expl 224 zs) s (IntKind.i64.wrap (a + 1))))) ⟨[], 99⟩ true) := by kernel_rfl
def e_rd : Spec := fun _ args => match args with
  | [.agg cs, .val (.int .i64 s), .val (.int .i64 a)] => match stateOf cs with
    | some zs => some (vi (rdF zs s a), none, [])
    | none => none
  | _ => none
theorem ok_rd : SpecOk Try.prog 57 e_rd := fun m args v mo bs h hb => by
  unfold e_rd at h
  split at h
  · rename_i cs s a
    split at h <;> cases h
    rename_i zs hz
    obtain ⟨e, hl⟩ := stateOf_eq hz
    have g : F_ Try.prog L_rr Try.f57 [] [] 99 [st zs, vi s, vi a] noMem = some (.ret (vi (rdF zs s a)) ⟨[], 99⟩ true) := by
      rw [rd_run, expl_whole hl]
      unfold rdF
      cases outD s a <;> rfl
    rw [e]
    exact pure_fn (c := bodyOf Try.f57) hE_rr mixedP (fun xs w => Try.call57 xs w) Try.func57 rfl g (by simp only [AV.grounds, st_ground zs hl]; rfl) rfl
  · cases h
end Go.Proofs.Ytbjealobiblabaa

namespace Go.Proofs.Ytbjealobiblabaa
open Go Go.RowKit
set_option maxRecDepth 100000
theorem conj_tt : ∀ {l : List Bool}, l.all id = true → conj l = true
  | [], _ => rfl
  | b :: r, h => by
    obtain ⟨h1, h2⟩ := all_cons h
    have h1 : b = true := h1
    rw [conj, h1, conj_tt h2]; rfl
-- See
def rowP (e : KV) : Bool := bif decide (1 ≤ kC e) then decide (kC e ≤ 6) else false
def rseeF : List Int → List KV → List Int
  | zs, [] => zs
  | zs, e :: l => rseeF (bif rowP e then zs.set (svI (kA e) (kC e)) (IntKind.i64.wrap (zs.getD (svI (kA e) (kC e)) 0 + kD e)) else zs) l
theorem rseeF_len : ∀ (l : List KV) (zs : List Int), (rseeF zs l).length = zs.length
  | [], _ => rfl
  | e :: l, zs => by
    rw [rseeF, rseeF_len l]
    cases rowP e <;> simp
/-- Rows that are counted lie at a site. -/
def rowsOk (l : List KV) : Bool := l.all fun e => !rowP e || decide (0 ≤ kA e ∧ kA e < 32)
abbrev rsC (a : Nat) : List Cut := [(2,[1,2,4,5],[0,1,2],a)]
abbrev rsT (n : Nat) (i : Int) : List AV := [.unk, .sl false 0 5 0 1 n none, .ptr 1 1 0 0, .unk, .ptr 2 1 0 0, vi i] ++ List.replicate 52 .unk
abbrev rsM (zs z0 : List Int) (l : List KV) (nx : Nat) : MS := ⟨[(0, some ⟨false, false, .rows (colsF fs5 l)⟩), (1, some ⟨true, false, .col (.ints .i64 zs)⟩), (2, some ⟨true, false, .col (.ints .i64 z0)⟩)], nx⟩
theorem rs_in (zs : List Int) (l : List KV) (n : Nat) : F_ Try.prog [] Try.f52 (rsC 9) [] 99 [st zs, .sl false 0 5 0 1 n none] ⟨[(0, some ⟨false, false, .rows (colsF fs5 l)⟩)], 1⟩ = some (.head (hd Try.f52 0) (rsT n 0) (rsM (expl 224 zs) (List.replicate 224 0) l 9) true) := by kernel_rfl
theorem rs_end (zs z0 : List Int) (l : List KV) (n : Nat) (i : Int) : HO_ Try.prog [] Try.f52 (rsC 9) [] 99 [0] (hd Try.f52 0) (rsT n i) (rsM zs z0 l 3) = some (.ret (st (expl 224 zs)) ⟨[], 99⟩ (conj [!decide (i < Int.ofNat n), decide (zs.length = 224), decide (z0.length = (expl 224 zs).length), decide ((expl 224 zs).length = 224)])) := by kernel_rfl
theorem rs_no (zs z0 : List Int) (l : List KV) (n : Nat) (i : Int) : HO_ Try.prog [] Try.f52 (rsC 9) [] 99 [1, 0] (hd Try.f52 0) (rsT n i) (rsM zs z0 l 3) = some (.head (hd Try.f52 0) (rsT n (up1 i)) (rsM zs z0 l 9) (conj [decide (i < Int.ofNat n), decide (0 ≤ i), decide (i.toNat < n), decide (iz i < (l.map kC).length), !decide (1 ≤ (l.map kC).getD (iz i) 0) || decide (0 ≤ i), !decide (1 ≤ (l.map kC).getD (iz i) 0) || decide (i.toNat < n), !decide (1 ≤ (l.map kC).getD (iz i) 0) || decide (iz i < (l.map kC).length), !(bif decide (1 ≤ (l.map kC).getD (iz i) 0) then decide ((l.map kC).getD (iz i) 0 ≤ 6) else false)])) := by kernel_rfl
theorem rs_yes (zs z0 : List Int) (l : List KV) (n : Nat) (i : Int) : HO_ Try.prog [] Try.f52 (rsC 9) [] 99 [1, 1] (hd Try.f52 0) (rsT n i) (rsM zs z0 l 3) = some (.head (hd Try.f52 0) (rsT n (up1 i)) (rsM (zs.set (svI ((l.map kA).getD (iz i) 0) ((l.map kC).getD (iz i) 0)) (IntKind.i64.wrap (zs.getD (svI ((l.map kA).getD (iz i) 0) ((l.map kC).getD (iz i) 0)) 0 + (l.map kD).getD (iz i) 0))) z0 l 9) (conj [decide (i < Int.ofNat n), decide (0 ≤ i), decide (i.toNat < n), decide (iz i < (l.map kC).length), !decide (1 ≤ (l.map kC).getD (iz i) 0) || decide (0 ≤ i), !decide (1 ≤ (l.map kC).getD (iz i) 0) || decide (i.toNat < n), !decide (1 ≤ (l.map kC).getD (iz i) 0) || decide (iz i < (l.map kC).length), (bif decide (1 ≤ (l.map kC).getD (iz i) 0) then decide ((l.map kC).getD (iz i) 0 ≤ 6) else false), decide (0 ≤ i), decide (i.toNat < n), decide (iz i < (l.map kA).length), decide (0 ≤ i), decide (i.toNat < n), decide (iz i < (l.map kC).length), decide (0 ≤ i), decide (i.toNat < n), decide (iz i < (l.map kA).length), decide (0 ≤ i), decide (i.toNat < n), decide (iz i < (l.map kC).length), decide (0 ≤ (l.map kA).getD (iz i) 0), decide (((l.map kA).getD (iz i) 0).toNat < 32), decide (0 ≤ (l.map kC).getD (iz i) 0), decide (((l.map kC).getD (iz i) 0).toNat < 7), decide (svI ((l.map kA).getD (iz i) 0) ((l.map kC).getD (iz i) 0) < zs.length), decide (0 ≤ i), decide (i.toNat < n), decide (iz i < (l.map kD).length), decide (0 ≤ (l.map kA).getD (iz i) 0), decide (((l.map kA).getD (iz i) 0).toNat < 32), decide (0 ≤ (l.map kC).getD (iz i) 0), decide (((l.map kC).getD (iz i) 0).toNat < 7), decide (svI ((l.map kA).getD (iz i) 0) ((l.map kC).getD (iz i) 0) < zs.length)])) := by kernel_rfl
theorem rs_loop (z0 : List Int) (h0 : z0.length = 224) (l : List KV) (hn : l.length ≤ 4096) (hok : rowsOk l = true) : ∀ (j i : Nat) (zs : List Int), i + j = l.length → zs.length = 224 → Gives_ Try.prog Try.f52 1 ⟨hd Try.f52 0, rsT l.length (i : Int), rsM zs z0 l 3⟩ (st (rseeF zs (l.drop i))) ⟨[], 99⟩
  | 0, i, zs, hi, hz => by
    have h := rs_end zs z0 l l.length (i : Int)
    rw [expl_whole hz, hz, h0, decide_eq_false (show ¬ (i : Int) < Int.ofNat l.length by show ¬ (i : Int) < (l.length : Int); omega)] at h
    rw [List.drop_of_length_le (by omega)]
    exact HO_ret env_nil mixedP rfl h rfl
  | j + 1, i, zs, hi, hz => by
    have hlt : i < l.length := by omega
    have eA : ∀ f : KV → Int, (l.map f).length = l.length := fun f => List.length_map ..
    have q1 : decide (0 ≤ (i : Int)) = true := decide_eq_true (by omega)
    have q2 : decide ((i : Int).toNat < l.length) = true := decide_eq_true (by omega)
    have q3 : ∀ f : KV → Int, decide (iz (i : Int) < (l.map f).length) = true := fun f => decide_eq_true (by rw [eA, iz_nat]; exact hlt)
    have q4 : decide ((i : Int) < Int.ofNat l.length) = true := decide_eq_true (by show (i : Int) < (l.length : Int); omega)
    have wA : (l.map kA).getD (iz (i : Int)) 0 = kA l[i] := mapD kA hlt
    have wC : (l.map kC).getD (iz (i : Int)) 0 = kC l[i] := mapD kC hlt
    have wD : (l.map kD).getD (iz (i : Int)) 0 = kD l[i] := mapD kD hlt
    rw [List.drop_eq_getElem_cons hlt, rseeF]
    cases hc : rowP l[i] with
    | true =>
      have hs : 0 ≤ kA l[i] ∧ kA l[i] < 32 := by
        have := List.all_eq_true.1 hok l[i] (List.getElem_mem hlt)
        rw [hc] at this
        exact of_decide_eq_true (by simpa using this)
      have hcc : 1 ≤ kC l[i] ∧ kC l[i] ≤ 6 := by
        unfold rowP at hc
        by_cases h1 : 1 ≤ kC l[i]
        · rw [decide_eq_true h1, cond_true] at hc; exact ⟨h1, of_decide_eq_true hc⟩
        · rw [decide_eq_false h1] at hc; cases hc
      have hx : svI (kA l[i]) (kC l[i]) < zs.length := by rw [hz]; exact svI_lt (is_iff.2 ⟨hs, by omega, by omega⟩)
      have h := rs_yes zs z0 l l.length (i : Int)
      simp only [wA, wC, wD] at h
      rw [conj_tt (by simp only [q1, q2, q3, q4, decide_eq_true hs.1, decide_eq_true hcc.1, decide_eq_true hcc.2, decide_eq_true (show (kA l[i]).toNat < 32 by omega), decide_eq_true (show 0 ≤ kC l[i] by omega), decide_eq_true (show (kC l[i]).toNat < 7 by omega), decide_eq_true hx]; rfl), up1_nat (by omega)] at h
      exact Goes.gives ((HO_head env_nil mixedP rfl h rfl).trans (Goes.ren (P := Try.prog) (B := 1) (σ := [(0, 0), (1, 1), (2, 2)]) (nx := 3) rfl)) (rs_loop z0 h0 l hn hok j (i + 1) _ (by omega) (by rw [List.length_set]; exact hz))
    | false =>
      have h := rs_no zs z0 l l.length (i : Int)
      simp only [wA, wC, wD] at h
      have hc' : (bif decide (1 ≤ kC l[i]) then decide (kC l[i] ≤ 6) else false) = false := hc
      rw [conj_tt (by simp only [q1, q2, q3, q4, hc', Bool.or_true]; rfl), up1_nat (by omega)] at h
      exact Goes.gives ((HO_head env_nil mixedP rfl h rfl).trans (Goes.ren (P := Try.prog) (B := 1) (σ := [(0, 0), (1, 1), (2, 2)]) (nx := 3) rfl)) (rs_loop z0 h0 l hn hok j (i + 1) zs (by omega) hz)
theorem rs_all (zs : List Int) (l : List KV) (hz : zs.length = 224) (hn : l.length ≤ 4096) (hok : rowsOk l = true) : Gives_ Try.prog Try.f52 1 (enterA Try.f52 (bodyOf Try.f52) [st zs, .sl false 0 5 0 1 l.length none] ⟨[(0, some ⟨false, false, .rows (colsF fs5 l)⟩)], 1⟩) (st (rseeF zs l)) ⟨[], 99⟩ := by
  have h := rs_in zs l l.length
  have g := rs_loop (List.replicate 224 0) rfl l hn hok l.length 0 zs (by omega) hz
  rw [expl_whole hz] at h
  rw [List.drop_zero] at g
  exact Goes.gives ((F_head (f := Try.f52) (c := bodyOf Try.f52) (m := ⟨[(0, some ⟨false, false, .rows (colsF fs5 l)⟩)], 1⟩) (cuts := rsC 9) (ns := []) (top := 99) env_nil mixedP rfl rfl h).trans (Goes.ren (P := Try.prog) (B := 1) (σ := [(0, 0), (1, 1), (2, 2)]) (nx := 3) rfl)) g
/-- Rows that are the rows l. -/
def e_rsee (l : List KV) : Spec := fun m args => match args with
  | [.agg cs, .sl _ b 5 0 1 n _] => match stateOf cs with
    | some zs => match look m.bl b with
      | some ⟨_, _, .rows [.ints .i64 c0, .ints .i64 c1, .ints .i64 c2, .ints .i64 c3, .ints .i64 c4]⟩ => some (st (rseeF zs l), none, [Nat.ble l.length 4096, decide (n = l.length), decide (c0 = l.map kA), decide (c1 = l.map kB), decide (c2 = l.map kC), decide (c3 = l.map kD), decide (c4 = l.map kE), rowsOk l])
      | _ => none
    | none => none
  | _ => none
theorem ok_rsee (l : List KV) : SpecOk Try.prog 52 (e_rsee l) := fun m args v mo bs h hb => by
  unfold e_rsee at h
  split at h
  · rename_i cs nn b n c
    split at h <;> try cases h
    rename_i zs hz
    split at h <;> cases h
    rename_i _ _ _ c0 c1 c2 c3 c4 hl
    obtain ⟨e, hzl⟩ := stateOf_eq hz
    simp only [List.all_cons, List.all_nil, id, Bool.and_true, Bool.and_eq_true, decide_eq_true_eq] at hb
    obtain ⟨h1, h2, e0, e1, e2, e3, e4, hok⟩ := hb
    subst h2 e0 e1 e2 e3 e4
    rw [e]
    refine lift_pure (m1 := ⟨[(0, some ⟨false, false, .rows (colsF fs5 l)⟩)], 1⟩) (args1 := [st zs, .sl false 0 5 0 1 l.length none]) (fsound (c := bodyOf Try.f52) (fun xs w => Try.call52 xs w) Try.func52 rfl (rs_all zs l hzl (Nat.le_of_ble_eq_true h1) hok)) rfl (st_ground _ (by rw [rseeF_len]; exact hzl)) fun ρ w xs hm hx => ?_
    have hx' : AV.rels ρ m.nx ([st zs] ++ [.sl nn b 5 0 1 l.length c]) xs := hx
    obtain ⟨ys, zs', rfl, g1, g2⟩ := hx'.split
    obtain ⟨ρ1, hm1, hx1⟩ := sim_sl (br := []) hl rfl rfl rfl ρ w zs' hm g2
    exact ⟨ρ1, hm1, AV.rels.append (AV.grounds_rels _ _ (by simp only [AV.grounds, st_ground zs hzl]; rfl) g1) hx1⟩
  · cases h
-- Row
abbrev rowI (s : Int) : Nat := addN (addN 0 (mulN s.toNat 7)) 0
def rowL (zs : List Int) (s : Int) : List Int := List.take 7 (zs.drop (rowI s))
theorem row_run (zs : List Int) (s : Int) : F_ Try.prog L_h Try.f55 [] [2] 99 [.ptr 0 1 0 0, vi s] ⟨[svR zs], 1⟩ = some (.ret (.sl true 2 1 0 1 7 none) ⟨[(2, some ⟨true, true, .col (.ints .i64 (rowL zs s))⟩)], 99⟩ (conj [decide (0 ≤ s), decide (s < 32), decide (0 ≤ s), decide (s.toNat < 32), Nat.ble (rowI s + 7) zs.length])) := by kernel_rfl
/-- A site that may be. -/
def e_rowI : Spec := fun m args => match args with
  | [.ptr l 1 0 0, .val (.int .i64 s)] => match look m.bl l with
    | some ⟨_, _, .col (.ints .i64 zs)⟩ => some (.sl true m.nx 1 0 1 7 none, some ⟨(m.nx, some ⟨true, true, .col (.ints .i64 (rowL zs s))⟩) :: m.bl, m.nx + 1⟩, [Nat.blt l m.nx, decide (zs.length = 225), decide (0 ≤ s), decide (s < 32)])
    | _ => none
  | _ => none
theorem ok_rowI : SpecOk Try.prog 55 e_rowI := fun m args v mo bs h hb => by
  unfold e_rowI at h
  split at h
  · rename_i l s
    split at h <;> cases h
    rename_i wr op zs hl
    simp only [List.all_cons, List.all_nil, id, Bool.and_true, Bool.and_eq_true, decide_eq_true_eq] at hb
    obtain ⟨h0, h1, h2, h3⟩ := hb
    have h0 : l < m.nx := Nat.le_of_ble_eq_true h0
    have e1 : l ≠ m.nx := by omega
    have g := row_run zs s
    have hI : rowI s + 7 ≤ zs.length := by
      obtain ⟨x, rfl⟩ := Int.eq_ofNat_of_zero_le h2
      unfold rowI
      rw [addN_eq, addN_eq, mulN_eq]
      omega
    rw [decide_eq_true h2, decide_eq_true h3, decide_eq_true (show s.toNat < 32 by omega), Nat.ble_eq_true_of_le hI] at g
    have f := fsound (m := ⟨[svR zs], 1⟩) (c := bodyOf Try.f55) (fun xs w => Try.call55 xs w) Try.func55 rfl (F_ret hE_h mixedP rfl rfl g)
    have q := lift_gen (m := m) (args := [.ptr l 1 0 0, vi s]) (σi := [(0, l)]) (σo := [(l, 0), (m.nx, 2)]) (nx' := m.nx + 1) f (by
        simp only [AV.rens, AV.ren, newOf, Nat.beq_refl]) (fun k b1 hk => by
        obtain ⟨rfl, rfl⟩ := look_one hk
        exact ⟨l, _, List.mem_cons_self, hl, (Cont.ren_ground rfl).symm, (fun h => by cases h), fun h => by cases h⟩)
      (fun p hp => by
        rcases List.mem_cons.1 hp with rfl | hp
        · exact ⟨Nat.zero_lt_one, List.mem_cons_self⟩
        · cases hp) rfl (by simp [distB, memB]) (by simp [distB, memB, nbeq_ne e1, nbeq_ne (Ne.symm e1)]) rfl
      (fun p hp => by
        rcases List.mem_cons.1 hp with rfl | hp
        · exact ⟨_, hl⟩
        · cases hp)
      (fun p hp => by
        simp only [List.mem_cons, List.not_mem_nil, or_false] at hp
        rcases hp with rfl | rfl
        · exact .inl List.mem_cons_self
        · exact .inr ⟨Nat.le_refl _, by show m.nx < m.nx + 1; omega⟩) (by omega) (fun k bk hk _ => by
        obtain ⟨rfl, rfl⟩ := look_one hk; rfl)
    exact q
  · cases h
theorem rowO_run (zs : List Int) (s : Int) : FO_ Try.prog L_survive_is Try.f55 [] [] 99 [1] [.ptr 0 1 0 0, vi s] ⟨[svR zs], 1⟩ = some (.ret (.val (.slice none 0 0)) ⟨[], 99⟩ (conj [!survive_is_0 s 0])) := by kernel_rfl
/-- A site that may not be. -/
def e_rowO : Spec := fun m args => match args with
  | [.ptr l 1 0 0, .val (.int .i64 s)] => match look m.bl l with
    | some ⟨_, _, .col (.ints .i64 zs)⟩ => some (.val (.slice none 0 0), none, [!survive_is_0 s 0])
    | _ => none
  | _ => none
theorem ok_rowO : SpecOk Try.prog 55 e_rowO := fun m args v mo bs h hb => by
  unfold e_rowO at h
  split at h
  · rename_i l s
    split at h <;> cases h
    rename_i wr op zs hl
    have g := rowO_run zs s
    rw [conj_tt hb] at g
    exact lift_p (ar := []) (br := [vi s]) hl rfl (fsound (c := bodyOf Try.f55) (fun xs w => Try.call55 xs w) Try.func55 rfl (FO_ret hE_survive_is mixedP rfl rfl g rfl)) rfl rfl rfl rfl
  · cases h
-- Same, seven numbers
theorem sm7_run (xs ys : List Int) (nn nn' : Bool) (r : Nat) (c c' : Option Nat) : FO_ Try.prog [] Try.f40 [] [] 99 [0,1,0,1,0,1,0,1,0,1,0,1,0,1,0,0] [.sl nn 0 1 0 1 7 c, .sl nn' 1 1 r 1 7 c'] ⟨[svR xs, (1, some ⟨false, false, .col (.ints .i64 ys)⟩)], 2⟩ = some (.ret (vb true) ⟨[], 99⟩ (conj [decide (0 < xs.length), decide (addN r 0 + 0 < ys.length), !xs.getD 0 0 != ys.getD (addN r 0 + 0) 0, decide (1 < xs.length), decide (addN r 1 + 0 < ys.length), !xs.getD 1 0 != ys.getD (addN r 1 + 0) 0, decide (2 < xs.length), decide (addN r 2 + 0 < ys.length), !xs.getD 2 0 != ys.getD (addN r 2 + 0) 0, decide (3 < xs.length), decide (addN r 3 + 0 < ys.length), !xs.getD 3 0 != ys.getD (addN r 3 + 0) 0, decide (4 < xs.length), decide (addN r 4 + 0 < ys.length), !xs.getD 4 0 != ys.getD (addN r 4 + 0) 0, decide (5 < xs.length), decide (addN r 5 + 0 < ys.length), !xs.getD 5 0 != ys.getD (addN r 5 + 0) 0, decide (6 < xs.length), decide (addN r 6 + 0 < ys.length), !xs.getD 6 0 != ys.getD (addN r 6 + 0) 0])) := by kernel_rfl
def e_same7 : Spec := fun m args => match args with
  | [.sl _ l 1 0 1 7 _, .sl _ l' 1 r 1 7 _] => match look m.bl l, look m.bl l' with
    | some ⟨_, _, .col (.ints .i64 xs)⟩, some ⟨_, _, .col (.ints .i64 ys)⟩ => some (vb true, none, [decide (xs = (ys.drop r).take 7), Nat.ble (r + 7) ys.length])
    | _, _ => none
  | _ => none
theorem ok_same7 : SpecOk Try.prog 40 e_same7 := fun m args v mo bs h hb => by
  unfold e_same7 at h
  split at h
  · rename_i nn l c nn' l' r c'
    split at h <;> cases h
    rename_i _ _ xs _ _ ys hl hl'
    simp only [List.all_cons, List.all_nil, id, Bool.and_true, Bool.and_eq_true, decide_eq_true_eq] at hb
    obtain ⟨h1, h2⟩ := hb
    have h2 := Nat.le_of_ble_eq_true h2
    have hxl : xs.length = 7 := by rw [h1]; simp; omega
    have g := sm7_run xs ys nn nn' r c c'
    rw [conj_tt (by
      have hk : ∀ k, k < 7 → (!xs.getD k 0 != ys.getD (addN r k + 0) 0) = true := fun k hk => by
        have : xs.getD k 0 = ys.getD (addN r k + 0) 0 := by
          rw [h1, addN_eq, Nat.add_zero, List.getD_eq_getElem?_getD, List.getElem?_take_of_lt hk, List.getElem?_drop, List.getD_eq_getElem?_getD]
        rw [this, bne_self_eq_false]; rfl
      have hy : ∀ k, k < 7 → decide (addN r k + 0 < ys.length) = true := fun k hk => decide_eq_true (by rw [addN_eq]; omega)
      have hx : ∀ k, k < 7 → decide (k < xs.length) = true := fun k hk => decide_eq_true (by omega)
      simp only [hk _ (show 0 < 7 by omega), hk _ (show 1 < 7 by omega), hk _ (show 2 < 7 by omega), hk _ (show 3 < 7 by omega), hk _ (show 4 < 7 by omega), hk _ (show 5 < 7 by omega), hk _ (show 6 < 7 by omega), hy _ (show 0 < 7 by omega), hy _ (show 1 < 7 by omega), hy _ (show 2 < 7 by omega), hy _ (show 3 < 7 by omega), hy _ (show 4 < 7 by omega), hy _ (show 5 < 7 by omega), hy _ (show 6 < 7 by omega), hx _ (show 0 < 7 by omega), hx _ (show 1 < 7 by omega), hx _ (show 2 < 7 by omega), hx _ (show 3 < 7 by omega), hx _ (show 4 < 7 by omega), hx _ (show 5 < 7 by omega), hx _ (show 6 < 7 by omega)]
      rfl)] at g
    refine lift_pure (fsound (c := bodyOf Try.f40) (fun xs w => Try.call40 xs w) Try.func40 rfl (FO_ret env_nil mixedP rfl rfl g rfl)) rfl rfl fun ρ w xs hm hr => ?_
    refine ⟨fun k => ρ (bif Nat.beq k 0 then l else l'), hm.views (fun k => bif Nat.beq k 0 then l else l') (fun k b1 hk => ?_), ?_⟩
    · rw [look_cons] at hk
      split at hk
      · rename_i e; subst e; cases hk
        exact ⟨by show (0 : Nat) < 2; omega, rfl, rfl, rfl, _, hl, rfl⟩
      · rw [look_cons] at hk
        split at hk
        · rename_i e; subst e; cases hk
          exact ⟨by show (1 : Nat) < 2; omega, rfl, rfl, rfl, _, hl', rfl⟩
        · cases hk
    · simp only [AV.rels] at hr ⊢
      obtain ⟨x, _, rfl, h1, y, _, rfl, h2, rfl⟩ := hr
      exact ⟨x, _, rfl, sl_as h1 (by show (0 : Nat) < 2; omega) rfl, y, _, rfl, sl_as h2 (by show (1 : Nat) < 2; omega) rfl, rfl⟩
  · cases h
end Go.Proofs.Ytbjealobiblabaa

namespace Go.Proofs.Ytbjealobiblabaa
open Go Go.RowKit
set_option maxRecDepth 100000
abbrev xC (a : Nat) : List Cut := [(15,[0,3,4,5,6,7,8],[0,2,3,4],a),(10,[0,3,4,5,6],[0,3,5],a),(6,[0,3,4,5],[0,3],a),(2,[0,3,4],[0,3],a)]
abbrev xT (nn : Bool) (n : Nat) (c : Option Nat) (v : AV) (s k a : AV) (r : AV) (i : AV) : List AV := [.sl nn 0 5 0 1 n c, .unk, .unk, v, s, k, a, r, i] ++ List.replicate 76 .unk
abbrev xV (l : List KV) : AV := match l with
  | [] => .val (.slice none 0 0)
  | _ :: _ => .sl true 3 5 0 1 l.length none
abbrev xB (l : List KV) : List (Nat × Option ABlk) := match l with
  | [] => []
  | _ :: _ => [(3, some ⟨true, true, .rows (colsF fs5 l)⟩)]
abbrev x0 (P R S A : List Int) (G : List Bool) : Nat × Option ABlk := (0, some ⟨false, false, hdC P R S A G⟩)
abbrev x2 (s k a o w : Int) : Nat × Option ABlk := (2, some ⟨true, false, .cells [vi s, vi k, vi a, vi o, vi w]⟩)
theorem x1N (P R S A : List Int) (G : List Bool) (nn : Bool) (n : Nat) (c : Option Nat) (s : Int) : H_ Try.prog L_census_Sum_plus Try.f16 (xC 9) [] 99 (hd Try.f16 0) (xT nn n c (.val (.slice none 0 0)) (vi s) .unk .unk .unk .unk) ⟨[x0 P R S A G], 4⟩ =
    bif decide (s < 32) then some (.head (hd Try.f16 1) (xT nn n c (.val (.slice none 0 0)) (vi s) (vi 0) .unk .unk .unk) ⟨[x0 P R S A G, (3, none)], 9⟩ true) else some (.ret (.val (.slice none 0 0)) ⟨[], 99⟩ true) := by kernel_rfl
theorem x2N (P R S A : List Int) (G : List Bool) (nn : Bool) (n : Nat) (c : Option Nat) (s k : Int) : H_ Try.prog L_census_Sum_plus Try.f16 (xC 9) [] 99 (hd Try.f16 1) (xT nn n c (.val (.slice none 0 0)) (vi s) (vi k) .unk .unk .unk) ⟨[x0 P R S A G], 4⟩ =
    bif decide (k < 14) then some (.head (hd Try.f16 2) (xT nn n c (.val (.slice none 0 0)) (vi s) (vi k) (vi 0) .unk .unk) ⟨[x0 P R S A G, (3, none), (5, none)], 9⟩ true) else some (.head (hd Try.f16 0) (xT nn n c (.val (.slice none 0 0)) (vi (up1 s)) .unk .unk .unk .unk) ⟨[x0 P R S A G, (3, none)], 9⟩ true) := by kernel_rfl
theorem x3N (P R S A : List Int) (G : List Bool) (nn : Bool) (n : Nat) (c : Option Nat) (s k a : Int) : H_ Try.prog L_census_Sum_plus Try.f16 (xC 9) [] 99 (hd Try.f16 2) (xT nn n c (.val (.slice none 0 0)) (vi s) (vi k) (vi a) .unk .unk) ⟨[x0 P R S A G], 4⟩ =
    bif decide (a < 8) then some (.head (hd Try.f16 3) (xT nn n c (.val (.slice none 0 0)) (vi s) (vi k) (vi a) (.ptr 4 1 0 0) (vi 0)) ⟨[x0 P R S A G, (2, none), (3, none), (4, some ⟨true, false, .cells [vi s, vi k, vi a, vi 0, vi 0]⟩)], 9⟩ true) else some (.head (hd Try.f16 1) (xT nn n c (.val (.slice none 0 0)) (vi s) (vi (up1 k)) .unk .unk .unk) ⟨[x0 P R S A G, (3, none)], 9⟩ true) := by kernel_rfl
theorem x4N (P R S A : List Int) (G : List Bool) (nn : Bool) (n : Nat) (c : Option Nat) (s k a o w i : Int) : H_ Try.prog L_census_Sum_plus Try.f16 (xC 9) [] 99 (hd Try.f16 3) (xT nn n c (.val (.slice none 0 0)) (vi s) (vi k) (vi a) (.ptr 2 1 0 0) (vi i)) ⟨[x0 P R S A G, x2 s k a o w], 4⟩ =
    bif decide (i < Int.ofNat n) then (bif (bif (bif (bif (haymowref12_Check_0 (P.getD (iz i) 0) (R.getD (iz i) 0) (S.getD (iz i) 0) (A.getD (iz i) 0) (G.getD (iz i) false) == 0) then (S.getD (iz i) 0) == s else false) then (A.getD (iz i) 0) == a else false) then haymowref04_Of_0 (haymowref13_Words_0 (P.getD (iz i) 0) (R.getD (iz i) 0)) == k else false) then some (.head (hd Try.f16 3) (xT nn n c (.val (.slice none 0 0)) (vi s) (vi k) (vi a) (.ptr 2 1 0 0) (vi (up1 i))) ⟨[x0 P R S A G, x2 s k a (IntKind.i64.wrap (o + 1)) (IntKind.i64.wrap (w + haymowref13_Words_0 (P.getD (iz i) 0) (R.getD (iz i) 0))), (3, none), (4, none)], 9⟩ (conj [decide (0 ≤ i), decide (i.toNat < n), decide (iz i < P.length), decide (iz i < R.length), decide (0 ≤ i), decide (i.toNat < n), decide (iz i < P.length), decide (iz i < R.length), decide (iz i < S.length), decide (iz i < A.length), decide (iz i < G.length), !(haymowref12_Check_0 (P.getD (iz i) 0) (R.getD (iz i) 0) (S.getD (iz i) 0) (A.getD (iz i) 0) (G.getD (iz i) false) == 0) || decide (0 ≤ i), !(haymowref12_Check_0 (P.getD (iz i) 0) (R.getD (iz i) 0) (S.getD (iz i) 0) (A.getD (iz i) 0) (G.getD (iz i) false) == 0) || decide (i.toNat < n), !(haymowref12_Check_0 (P.getD (iz i) 0) (R.getD (iz i) 0) (S.getD (iz i) 0) (A.getD (iz i) 0) (G.getD (iz i) false) == 0) || decide (iz i < S.length), !(bif (haymowref12_Check_0 (P.getD (iz i) 0) (R.getD (iz i) 0) (S.getD (iz i) 0) (A.getD (iz i) 0) (G.getD (iz i) false) == 0) then (S.getD (iz i) 0) == s else false) || decide (0 ≤ i), !(bif (haymowref12_Check_0 (P.getD (iz i) 0) (R.getD (iz i) 0) (S.getD (iz i) 0) (A.getD (iz i) 0) (G.getD (iz i) false) == 0) then (S.getD (iz i) 0) == s else false) || decide (i.toNat < n), !(bif (haymowref12_Check_0 (P.getD (iz i) 0) (R.getD (iz i) 0) (S.getD (iz i) 0) (A.getD (iz i) 0) (G.getD (iz i) false) == 0) then (S.getD (iz i) 0) == s else false) || decide (iz i < A.length)])) else some (.head (hd Try.f16 3) (xT nn n c (.val (.slice none 0 0)) (vi s) (vi k) (vi a) (.ptr 2 1 0 0) (vi (up1 i))) ⟨[x0 P R S A G, x2 s k a o w, (3, none), (4, none)], 9⟩ (conj [decide (0 ≤ i), decide (i.toNat < n), decide (iz i < P.length), decide (iz i < R.length), decide (0 ≤ i), decide (i.toNat < n), decide (iz i < P.length), decide (iz i < R.length), decide (iz i < S.length), decide (iz i < A.length), decide (iz i < G.length), !(haymowref12_Check_0 (P.getD (iz i) 0) (R.getD (iz i) 0) (S.getD (iz i) 0) (A.getD (iz i) 0) (G.getD (iz i) false) == 0) || decide (0 ≤ i), !(haymowref12_Check_0 (P.getD (iz i) 0) (R.getD (iz i) 0) (S.getD (iz i) 0) (A.getD (iz i) 0) (G.getD (iz i) false) == 0) || decide (i.toNat < n), !(haymowref12_Check_0 (P.getD (iz i) 0) (R.getD (iz i) 0) (S.getD (iz i) 0) (A.getD (iz i) 0) (G.getD (iz i) false) == 0) || decide (iz i < S.length), !(bif (haymowref12_Check_0 (P.getD (iz i) 0) (R.getD (iz i) 0) (S.getD (iz i) 0) (A.getD (iz i) 0) (G.getD (iz i) false) == 0) then (S.getD (iz i) 0) == s else false) || decide (0 ≤ i), !(bif (haymowref12_Check_0 (P.getD (iz i) 0) (R.getD (iz i) 0) (S.getD (iz i) 0) (A.getD (iz i) 0) (G.getD (iz i) false) == 0) then (S.getD (iz i) 0) == s else false) || decide (i.toNat < n), !(bif (haymowref12_Check_0 (P.getD (iz i) 0) (R.getD (iz i) 0) (S.getD (iz i) 0) (A.getD (iz i) 0) (G.getD (iz i) false) == 0) then (S.getD (iz i) 0) == s else false) || decide (iz i < A.length)])))
    else bif decide (0 < o) then some (.head (hd Try.f16 2) (xT nn n c (.sl true 5 5 0 1 1 none) (vi s) (vi k) (vi (up1 a)) .unk .unk) ⟨[x0 P R S A G, (3, none), (5, some ⟨true, true, .rows (colsF fs5 [([s, k, a], [o, w])])⟩)], 9⟩ true)
    else some (.head (hd Try.f16 2) (xT nn n c (.val (.slice none 0 0)) (vi s) (vi k) (vi (up1 a)) .unk .unk) ⟨[x0 P R S A G, (3, none), (5, none)], 9⟩ true) := by kernel_rfl
theorem xiN (P R S A : List Int) (G : List Bool) (nn : Bool) (n : Nat) (c : Option Nat) : F_ Try.prog L_census_Sum_plus Try.f16 (xC 9) [] 99 [.sl nn 0 5 0 1 n c] ⟨[x0 P R S A G], 1⟩ = some (.head (hd Try.f16 0) (xT nn n c (.val (.slice none 0 0)) (vi 0) .unk .unk .unk .unk) ⟨[x0 P R S A G, (3, none)], 9⟩ true) := by kernel_rfl
theorem x1Y (P R S A : List Int) (G : List Bool) (nn : Bool) (n : Nat) (c : Option Nat) (l : List KV) (q : Nat) (s : Int) : H_ Try.prog L_census_Sum_plus Try.f16 (xC 9) [3] 99 (hd Try.f16 0) (xT nn n c (.sl true 3 5 0 1 q none) (vi s) .unk .unk .unk .unk) ⟨[x0 P R S A G, (3, some ⟨true, true, .rows (colsF fs5 l)⟩)], 4⟩ =
    bif decide (s < 32) then some (.head (hd Try.f16 1) (xT nn n c (.sl true 3 5 0 1 q none) (vi s) (vi 0) .unk .unk .unk) ⟨[x0 P R S A G, (3, some ⟨true, true, .rows (colsF fs5 l)⟩)], 9⟩ true) else some (.ret (.sl true 3 5 0 1 q none) ⟨[(3, some ⟨true, true, .rows (colsF fs5 l)⟩)], 99⟩ true) := by kernel_rfl
theorem x2Y (P R S A : List Int) (G : List Bool) (nn : Bool) (n : Nat) (c : Option Nat) (l : List KV) (q : Nat) (s k : Int) : H_ Try.prog L_census_Sum_plus Try.f16 (xC 9) [3] 99 (hd Try.f16 1) (xT nn n c (.sl true 3 5 0 1 q none) (vi s) (vi k) .unk .unk .unk) ⟨[x0 P R S A G, (3, some ⟨true, true, .rows (colsF fs5 l)⟩)], 4⟩ =
    bif decide (k < 14) then some (.head (hd Try.f16 2) (xT nn n c (.sl true 3 5 0 1 q none) (vi s) (vi k) (vi 0) .unk .unk) ⟨[x0 P R S A G, (3, some ⟨true, true, .rows (colsF fs5 l)⟩), (5, none)], 9⟩ true) else some (.head (hd Try.f16 0) (xT nn n c (.sl true 3 5 0 1 q none) (vi (up1 s)) .unk .unk .unk .unk) ⟨[x0 P R S A G, (3, some ⟨true, true, .rows (colsF fs5 l)⟩)], 9⟩ true) := by kernel_rfl
theorem x3Y (P R S A : List Int) (G : List Bool) (nn : Bool) (n : Nat) (c : Option Nat) (l : List KV) (q : Nat) (s k a : Int) : H_ Try.prog L_census_Sum_plus Try.f16 (xC 9) [3] 99 (hd Try.f16 2) (xT nn n c (.sl true 3 5 0 1 q none) (vi s) (vi k) (vi a) .unk .unk) ⟨[x0 P R S A G, (3, some ⟨true, true, .rows (colsF fs5 l)⟩)], 4⟩ =
    bif decide (a < 8) then some (.head (hd Try.f16 3) (xT nn n c (.sl true 3 5 0 1 q none) (vi s) (vi k) (vi a) (.ptr 4 1 0 0) (vi 0)) ⟨[x0 P R S A G, (2, none), (3, some ⟨true, true, .rows (colsF fs5 l)⟩), (4, some ⟨true, false, .cells [vi s, vi k, vi a, vi 0, vi 0]⟩)], 9⟩ true) else some (.head (hd Try.f16 1) (xT nn n c (.sl true 3 5 0 1 q none) (vi s) (vi (up1 k)) .unk .unk .unk) ⟨[x0 P R S A G, (3, some ⟨true, true, .rows (colsF fs5 l)⟩)], 9⟩ true) := by kernel_rfl
theorem x4Y (P R S A : List Int) (G : List Bool) (nn : Bool) (n : Nat) (c : Option Nat) (l : List KV) (q : Nat) (s k a o w i : Int) : H_ Try.prog L_census_Sum_plus Try.f16 (xC 9) [3] 99 (hd Try.f16 3) (xT nn n c (.sl true 3 5 0 1 q none) (vi s) (vi k) (vi a) (.ptr 2 1 0 0) (vi i)) ⟨[x0 P R S A G, x2 s k a o w, (3, some ⟨true, true, .rows (colsF fs5 l)⟩)], 4⟩ =
    bif decide (i < Int.ofNat n) then (bif (bif (bif (bif (haymowref12_Check_0 (P.getD (iz i) 0) (R.getD (iz i) 0) (S.getD (iz i) 0) (A.getD (iz i) 0) (G.getD (iz i) false) == 0) then (S.getD (iz i) 0) == s else false) then (A.getD (iz i) 0) == a else false) then haymowref04_Of_0 (haymowref13_Words_0 (P.getD (iz i) 0) (R.getD (iz i) 0)) == k else false) then some (.head (hd Try.f16 3) (xT nn n c (.sl true 3 5 0 1 q none) (vi s) (vi k) (vi a) (.ptr 2 1 0 0) (vi (up1 i))) ⟨[x0 P R S A G, x2 s k a (IntKind.i64.wrap (o + 1)) (IntKind.i64.wrap (w + haymowref13_Words_0 (P.getD (iz i) 0) (R.getD (iz i) 0))), (3, some ⟨true, true, .rows (colsF fs5 l)⟩), (4, none)], 9⟩ (conj [decide (0 ≤ i), decide (i.toNat < n), decide (iz i < P.length), decide (iz i < R.length), decide (0 ≤ i), decide (i.toNat < n), decide (iz i < P.length), decide (iz i < R.length), decide (iz i < S.length), decide (iz i < A.length), decide (iz i < G.length), !(haymowref12_Check_0 (P.getD (iz i) 0) (R.getD (iz i) 0) (S.getD (iz i) 0) (A.getD (iz i) 0) (G.getD (iz i) false) == 0) || decide (0 ≤ i), !(haymowref12_Check_0 (P.getD (iz i) 0) (R.getD (iz i) 0) (S.getD (iz i) 0) (A.getD (iz i) 0) (G.getD (iz i) false) == 0) || decide (i.toNat < n), !(haymowref12_Check_0 (P.getD (iz i) 0) (R.getD (iz i) 0) (S.getD (iz i) 0) (A.getD (iz i) 0) (G.getD (iz i) false) == 0) || decide (iz i < S.length), !(bif (haymowref12_Check_0 (P.getD (iz i) 0) (R.getD (iz i) 0) (S.getD (iz i) 0) (A.getD (iz i) 0) (G.getD (iz i) false) == 0) then (S.getD (iz i) 0) == s else false) || decide (0 ≤ i), !(bif (haymowref12_Check_0 (P.getD (iz i) 0) (R.getD (iz i) 0) (S.getD (iz i) 0) (A.getD (iz i) 0) (G.getD (iz i) false) == 0) then (S.getD (iz i) 0) == s else false) || decide (i.toNat < n), !(bif (haymowref12_Check_0 (P.getD (iz i) 0) (R.getD (iz i) 0) (S.getD (iz i) 0) (A.getD (iz i) 0) (G.getD (iz i) false) == 0) then (S.getD (iz i) 0) == s else false) || decide (iz i < A.length)])) else some (.head (hd Try.f16 3) (xT nn n c (.sl true 3 5 0 1 q none) (vi s) (vi k) (vi a) (.ptr 2 1 0 0) (vi (up1 i))) ⟨[x0 P R S A G, x2 s k a o w, (3, some ⟨true, true, .rows (colsF fs5 l)⟩), (4, none)], 9⟩ (conj [decide (0 ≤ i), decide (i.toNat < n), decide (iz i < P.length), decide (iz i < R.length), decide (0 ≤ i), decide (i.toNat < n), decide (iz i < P.length), decide (iz i < R.length), decide (iz i < S.length), decide (iz i < A.length), decide (iz i < G.length), !(haymowref12_Check_0 (P.getD (iz i) 0) (R.getD (iz i) 0) (S.getD (iz i) 0) (A.getD (iz i) 0) (G.getD (iz i) false) == 0) || decide (0 ≤ i), !(haymowref12_Check_0 (P.getD (iz i) 0) (R.getD (iz i) 0) (S.getD (iz i) 0) (A.getD (iz i) 0) (G.getD (iz i) false) == 0) || decide (i.toNat < n), !(haymowref12_Check_0 (P.getD (iz i) 0) (R.getD (iz i) 0) (S.getD (iz i) 0) (A.getD (iz i) 0) (G.getD (iz i) false) == 0) || decide (iz i < S.length), !(bif (haymowref12_Check_0 (P.getD (iz i) 0) (R.getD (iz i) 0) (S.getD (iz i) 0) (A.getD (iz i) 0) (G.getD (iz i) false) == 0) then (S.getD (iz i) 0) == s else false) || decide (0 ≤ i), !(bif (haymowref12_Check_0 (P.getD (iz i) 0) (R.getD (iz i) 0) (S.getD (iz i) 0) (A.getD (iz i) 0) (G.getD (iz i) false) == 0) then (S.getD (iz i) 0) == s else false) || decide (i.toNat < n), !(bif (haymowref12_Check_0 (P.getD (iz i) 0) (R.getD (iz i) 0) (S.getD (iz i) 0) (A.getD (iz i) 0) (G.getD (iz i) false) == 0) then (S.getD (iz i) 0) == s else false) || decide (iz i < A.length)])))
    else bif decide (0 < o) then some (.head (hd Try.f16 2) (xT nn n c (.sl true 5 5 0 1 (q + 1) none) (vi s) (vi k) (vi (up1 a)) .unk .unk) ⟨[x0 P R S A G, (3, none), (5, some ⟨true, true, .rows [.ints .i64 (List.take q (l.map kA) ++ [s]), .ints .i64 (List.take q (l.map kB) ++ [k]), .ints .i64 (List.take q (l.map kC) ++ [a]), .ints .i64 (List.take q (l.map kD) ++ [o]), .ints .i64 (List.take q (l.map kE) ++ [w])]⟩)], 9⟩ (conj [decide (0 < q), decide ((q + 1) * 40 ≤ 140737488355328), decide (q ≤ (l.map kA).length), decide (q ≤ (l.map kB).length), decide (q ≤ (l.map kC).length), decide (q ≤ (l.map kD).length), decide (q ≤ (l.map kE).length)]))
    else some (.head (hd Try.f16 2) (xT nn n c (.sl true 3 5 0 1 q none) (vi s) (vi k) (vi (up1 a)) .unk .unk) ⟨[x0 P R S A G, (3, some ⟨true, true, .rows (colsF fs5 l)⟩), (5, none)], 9⟩ true) := by kernel_rfl
theorem g1 (P R S A : List Int) (G : List Bool) (nn : Bool) (n : Nat) (c : Option Nat) (s : Nat) (l : List KV) (hs : s < 32) : Goes Try.prog 1 ⟨hd Try.f16 0, xT nn n c (xV l) (vi (s : Int)) .unk .unk .unk .unk, ⟨[x0 P R S A G] ++ xB l, 4⟩⟩ ⟨hd Try.f16 1, xT nn n c (xV l) (vi (s : Int)) (vi 0) .unk .unk .unk, ⟨[x0 P R S A G] ++ xB l, 4⟩⟩ := by
  match l with
  | [] =>
    have h := x1N P R S A G nn n c (s : Int)
    rw [decide_eq_true (show (s : Int) < 32 by omega), cond_true] at h
    exact (H_head (f := Try.f16) (cuts := xC 9) (ns := []) (top := 99) hE_census_Sum_plus mixedP rfl h).trans (Goes.ren (P := Try.prog) (B := 1) (σ := [(0, 0)]) (nx := 4) rfl)
  | e :: l =>
    have h := x1Y P R S A G nn n c (e :: l) (e :: l).length (s : Int)
    rw [decide_eq_true (show (s : Int) < 32 by omega), cond_true] at h
    exact (H_head (f := Try.f16) (cuts := xC 9) (ns := [3]) (top := 99) hE_census_Sum_plus mixedP rfl h).trans (Goes.ren (P := Try.prog) (B := 1) (σ := [(0, 0), (3, 3)]) (nx := 4) rfl)
theorem g2 (P R S A : List Int) (G : List Bool) (nn : Bool) (n : Nat) (c : Option Nat) (s k : Nat) (l : List KV) (hs : k < 14) : Goes Try.prog 1 ⟨hd Try.f16 1, xT nn n c (xV l) (vi (s : Int)) (vi (k : Int)) .unk .unk .unk, ⟨[x0 P R S A G] ++ xB l, 4⟩⟩ ⟨hd Try.f16 2, xT nn n c (xV l) (vi (s : Int)) (vi (k : Int)) (vi 0) .unk .unk, ⟨[x0 P R S A G] ++ xB l, 4⟩⟩ := by
  match l with
  | [] =>
    have h := x2N P R S A G nn n c (s : Int) (k : Int)
    rw [decide_eq_true (show (k : Int) < 14 by omega), cond_true] at h
    exact (H_head (f := Try.f16) (cuts := xC 9) (ns := []) (top := 99) hE_census_Sum_plus mixedP rfl h).trans (Goes.ren (P := Try.prog) (B := 1) (σ := [(0, 0)]) (nx := 4) rfl)
  | e :: l =>
    have h := x2Y P R S A G nn n c (e :: l) (e :: l).length (s : Int) (k : Int)
    rw [decide_eq_true (show (k : Int) < 14 by omega), cond_true] at h
    exact (H_head (f := Try.f16) (cuts := xC 9) (ns := [3]) (top := 99) hE_census_Sum_plus mixedP rfl h).trans (Goes.ren (P := Try.prog) (B := 1) (σ := [(0, 0), (3, 3)]) (nx := 4) rfl)
theorem g2e (P R S A : List Int) (G : List Bool) (nn : Bool) (n : Nat) (c : Option Nat) (s : Nat) (l : List KV) (hs : s < 32) : Goes Try.prog 1 ⟨hd Try.f16 1, xT nn n c (xV l) (vi (s : Int)) (vi ((14 : Nat) : Int)) .unk .unk .unk, ⟨[x0 P R S A G] ++ xB l, 4⟩⟩ ⟨hd Try.f16 0, xT nn n c (xV l) (vi ((s + 1 : Nat) : Int)) .unk .unk .unk .unk, ⟨[x0 P R S A G] ++ xB l, 4⟩⟩ := by
  match l with
  | [] =>
    have h := x2N P R S A G nn n c (s : Int) ((14 : Nat) : Int)
    rw [decide_eq_false (show ¬ ((14 : Nat) : Int) < 14 by omega), cond_false, up1_nat (by omega)] at h
    exact (H_head (f := Try.f16) (cuts := xC 9) (ns := []) (top := 99) hE_census_Sum_plus mixedP rfl h).trans (Goes.ren (P := Try.prog) (B := 1) (σ := [(0, 0)]) (nx := 4) rfl)
  | e :: l =>
    have h := x2Y P R S A G nn n c (e :: l) (e :: l).length (s : Int) ((14 : Nat) : Int)
    rw [decide_eq_false (show ¬ ((14 : Nat) : Int) < 14 by omega), cond_false, up1_nat (by omega)] at h
    exact (H_head (f := Try.f16) (cuts := xC 9) (ns := [3]) (top := 99) hE_census_Sum_plus mixedP rfl h).trans (Goes.ren (P := Try.prog) (B := 1) (σ := [(0, 0), (3, 3)]) (nx := 4) rfl)
theorem g3 (P R S A : List Int) (G : List Bool) (nn : Bool) (n : Nat) (c : Option Nat) (s k a : Nat) (l : List KV) (hs : a < 8) : Goes Try.prog 1 ⟨hd Try.f16 2, xT nn n c (xV l) (vi (s : Int)) (vi (k : Int)) (vi (a : Int)) .unk .unk, ⟨[x0 P R S A G] ++ xB l, 4⟩⟩ ⟨hd Try.f16 3, xT nn n c (xV l) (vi (s : Int)) (vi (k : Int)) (vi (a : Int)) (.ptr 2 1 0 0) (vi 0), ⟨[x0 P R S A G, x2 (s : Int) (k : Int) (a : Int) 0 0] ++ xB l, 4⟩⟩ := by
  match l with
  | [] =>
    have h := x3N P R S A G nn n c (s : Int) (k : Int) (a : Int)
    rw [decide_eq_true (show (a : Int) < 8 by omega), cond_true] at h
    exact (H_head (f := Try.f16) (cuts := xC 9) (ns := []) (top := 99) hE_census_Sum_plus mixedP rfl h).trans (Goes.ren (P := Try.prog) (B := 1) (σ := [(0, 0), (2, 4)]) (nx := 4) rfl)
  | e :: l =>
    have h := x3Y P R S A G nn n c (e :: l) (e :: l).length (s : Int) (k : Int) (a : Int)
    rw [decide_eq_true (show (a : Int) < 8 by omega), cond_true] at h
    exact (H_head (f := Try.f16) (cuts := xC 9) (ns := [3]) (top := 99) hE_census_Sum_plus mixedP rfl h).trans (Goes.ren (P := Try.prog) (B := 1) (σ := [(0, 0), (2, 4), (3, 3)]) (nx := 4) rfl)
theorem g3e (P R S A : List Int) (G : List Bool) (nn : Bool) (n : Nat) (c : Option Nat) (s k : Nat) (l : List KV) (hs : k < 14) : Goes Try.prog 1 ⟨hd Try.f16 2, xT nn n c (xV l) (vi (s : Int)) (vi (k : Int)) (vi ((8 : Nat) : Int)) .unk .unk, ⟨[x0 P R S A G] ++ xB l, 4⟩⟩ ⟨hd Try.f16 1, xT nn n c (xV l) (vi (s : Int)) (vi ((k + 1 : Nat) : Int)) .unk .unk .unk, ⟨[x0 P R S A G] ++ xB l, 4⟩⟩ := by
  match l with
  | [] =>
    have h := x3N P R S A G nn n c (s : Int) (k : Int) ((8 : Nat) : Int)
    rw [decide_eq_false (show ¬ ((8 : Nat) : Int) < 8 by omega), cond_false, up1_nat (by omega)] at h
    exact (H_head (f := Try.f16) (cuts := xC 9) (ns := []) (top := 99) hE_census_Sum_plus mixedP rfl h).trans (Goes.ren (P := Try.prog) (B := 1) (σ := [(0, 0)]) (nx := 4) rfl)
  | e :: l =>
    have h := x3Y P R S A G nn n c (e :: l) (e :: l).length (s : Int) (k : Int) ((8 : Nat) : Int)
    rw [decide_eq_false (show ¬ ((8 : Nat) : Int) < 8 by omega), cond_false, up1_nat (by omega)] at h
    exact (H_head (f := Try.f16) (cuts := xC 9) (ns := [3]) (top := 99) hE_census_Sum_plus mixedP rfl h).trans (Goes.ren (P := Try.prog) (B := 1) (σ := [(0, 0), (3, 3)]) (nx := 4) rfl)
/-- What the document asks of a header. -/
theorem ask_gen (p r x y : Int) (g : Bool) (s k a : Int) : (bif (bif (bif (haymowref12_Check_0 p r x y g == 0) then x == s else false) then y == a else false) then haymowref04_Of_0 (haymowref13_Words_0 p r) == k else false) = isK [s, k, a] (p, r, x, y) := by
  rw [ref_ok]
  unfold isK okHd keyH
  dsimp only
  by_cases h : OkH p r x y
  · rw [ref_words h, decide_eq_true h]
    show (bif (bif (bif true then x == s else false) then y == a else false) then cls p r == k else false) = _
    generalize cls p r = q
    simp only [cond_true, Bool.true_and, List.cons.injEq, and_true]
    by_cases h1 : x = s
    · by_cases h2 : y = a
      · by_cases h3 : q = k <;> simp [h1, h2, h3]
      · simp [h1, h2]
    · simp [h1]
  · rw [decide_eq_false h]
    simp
theorem ask_eq (P R S A : List Int) (G : List Bool) (i : Nat) (s k a : Int) : (bif (bif (bif (haymowref12_Check_0 (P.getD i 0) (R.getD i 0) (S.getD i 0) (A.getD i 0) (G.getD i false) == 0) then S.getD i 0 == s else false) then A.getD i 0 == a else false) then haymowref04_Of_0 (haymowref13_Words_0 (P.getD i 0) (R.getD i 0)) == k else false) = isK [s, k, a] (hdAt P R S A i) := ask_gen _ _ _ _ _ _ _ _
theorem ask_bounds {P R S A : List Int} {i : Nat} {k : List Int} (h : isK k (hdAt P R S A i) = true) : (0 ≤ P.getD i 0 ∧ P.getD i 0 ≤ 4095) ∧ 0 ≤ R.getD i 0 ∧ R.getD i 0 ≤ 4095 := by
  have := (isK_iff.1 h).1
  exact ⟨this.1, this.2.1⟩
theorem ask_words {P R S A : List Int} {i : Nat} {k : List Int} (h : isK k (hdAt P R S A i) = true) : haymowref13_Words_0 (P.getD i 0) (R.getD i 0) = 1 + P.getD i 0 + R.getD i 0 := ref_words (isK_iff.1 h).1
theorem g4y (P R S A : List Int) (G : List Bool) (nn : Bool) (n : Nat) (c : Option Nat) (s k a co i : Nat) (wv : Int) (l : List KV) (hi : i < n) (hn : n ≤ 4096) (hP : n ≤ P.length) (hR : n ≤ R.length) (hS : n ≤ S.length) (hA : n ≤ A.length) (hG : n ≤ G.length) (hq : isK [(s : Int), (k : Int), (a : Int)] (hdAt P R S A i) = true) (hc : co ≤ 4096) (hw : 0 ≤ wv ∧ wv ≤ 8191 * 4096) : Goes Try.prog 1 ⟨hd Try.f16 3, xT nn n c (xV l) (vi (s : Int)) (vi (k : Int)) (vi (a : Int)) (.ptr 2 1 0 0) (vi (i : Int)), ⟨[x0 P R S A G, x2 (s : Int) (k : Int) (a : Int) (co : Int) wv] ++ xB l, 4⟩⟩ ⟨hd Try.f16 3, xT nn n c (xV l) (vi (s : Int)) (vi (k : Int)) (vi (a : Int)) (.ptr 2 1 0 0) (vi ((i + 1 : Nat) : Int)), ⟨[x0 P R S A G, x2 (s : Int) (k : Int) (a : Int) ((co + 1 : Nat) : Int) (wv + (1 + P.getD i 0 + R.getD i 0))] ++ xB l, 4⟩⟩ := by
  match l with
  | [] =>
    have h := x4N P R S A G nn n c (s : Int) (k : Int) (a : Int) (co : Int) wv (i : Int)
    rw [decide_eq_true (show (i : Int) < Int.ofNat n by show (i : Int) < (n : Int); omega), cond_true, iz_nat, Int.toNat_natCast, decide_eq_true (show 0 ≤ (i : Int) by omega), decide_eq_true (show i < n by omega), decide_eq_true (show i < P.length by omega), decide_eq_true (show i < R.length by omega), decide_eq_true (show i < S.length by omega), decide_eq_true (show i < A.length by omega), decide_eq_true (show i < G.length by omega), up1_nat (by omega), ask_eq, hq, cond_true, ask_words hq, wr64 ((co : Int) + 1) (by omega) (by omega), wr64 (wv + _) (by have := ask_bounds hq; omega) (by have := ask_bounds hq; omega), Bool.or_true, Bool.or_true] at h
    exact (H_head (f := Try.f16) (cuts := xC 9) (ns := []) (top := 99) hE_census_Sum_plus mixedP rfl h).trans (Goes.ren (P := Try.prog) (B := 1) (σ := [(0, 0), (2, 2)]) (nx := 4) rfl)
  | e :: l =>
    have h := x4Y P R S A G nn n c (e :: l) (e :: l).length (s : Int) (k : Int) (a : Int) (co : Int) wv (i : Int)
    rw [decide_eq_true (show (i : Int) < Int.ofNat n by show (i : Int) < (n : Int); omega), cond_true, iz_nat, Int.toNat_natCast, decide_eq_true (show 0 ≤ (i : Int) by omega), decide_eq_true (show i < n by omega), decide_eq_true (show i < P.length by omega), decide_eq_true (show i < R.length by omega), decide_eq_true (show i < S.length by omega), decide_eq_true (show i < A.length by omega), decide_eq_true (show i < G.length by omega), up1_nat (by omega), ask_eq, hq, cond_true, ask_words hq, wr64 ((co : Int) + 1) (by omega) (by omega), wr64 (wv + _) (by have := ask_bounds hq; omega) (by have := ask_bounds hq; omega), Bool.or_true, Bool.or_true] at h
    exact (H_head (f := Try.f16) (cuts := xC 9) (ns := [3]) (top := 99) hE_census_Sum_plus mixedP rfl h).trans (Goes.ren (P := Try.prog) (B := 1) (σ := [(0, 0), (2, 2), (3, 3)]) (nx := 4) rfl)
theorem g4n (P R S A : List Int) (G : List Bool) (nn : Bool) (n : Nat) (c : Option Nat) (s k a co i : Nat) (wv : Int) (l : List KV) (hi : i < n) (hn : n ≤ 4096) (hP : n ≤ P.length) (hR : n ≤ R.length) (hS : n ≤ S.length) (hA : n ≤ A.length) (hG : n ≤ G.length) (hq : isK [(s : Int), (k : Int), (a : Int)] (hdAt P R S A i) = false) (hc : co ≤ 4096) (hw : 0 ≤ wv ∧ wv ≤ 8191 * 4096) : Goes Try.prog 1 ⟨hd Try.f16 3, xT nn n c (xV l) (vi (s : Int)) (vi (k : Int)) (vi (a : Int)) (.ptr 2 1 0 0) (vi (i : Int)), ⟨[x0 P R S A G, x2 (s : Int) (k : Int) (a : Int) (co : Int) wv] ++ xB l, 4⟩⟩ ⟨hd Try.f16 3, xT nn n c (xV l) (vi (s : Int)) (vi (k : Int)) (vi (a : Int)) (.ptr 2 1 0 0) (vi ((i + 1 : Nat) : Int)), ⟨[x0 P R S A G, x2 (s : Int) (k : Int) (a : Int) (co : Int) wv] ++ xB l, 4⟩⟩ := by
  match l with
  | [] =>
    have h := x4N P R S A G nn n c (s : Int) (k : Int) (a : Int) (co : Int) wv (i : Int)
    rw [decide_eq_true (show (i : Int) < Int.ofNat n by show (i : Int) < (n : Int); omega), cond_true, iz_nat, Int.toNat_natCast, decide_eq_true (show 0 ≤ (i : Int) by omega), decide_eq_true (show i < n by omega), decide_eq_true (show i < P.length by omega), decide_eq_true (show i < R.length by omega), decide_eq_true (show i < S.length by omega), decide_eq_true (show i < A.length by omega), decide_eq_true (show i < G.length by omega), up1_nat (by omega), ask_eq, hq, cond_false, Bool.or_true, Bool.or_true] at h
    exact (H_head (f := Try.f16) (cuts := xC 9) (ns := []) (top := 99) hE_census_Sum_plus mixedP rfl h).trans (Goes.ren (P := Try.prog) (B := 1) (σ := [(0, 0), (2, 2)]) (nx := 4) rfl)
  | e :: l =>
    have h := x4Y P R S A G nn n c (e :: l) (e :: l).length (s : Int) (k : Int) (a : Int) (co : Int) wv (i : Int)
    rw [decide_eq_true (show (i : Int) < Int.ofNat n by show (i : Int) < (n : Int); omega), cond_true, iz_nat, Int.toNat_natCast, decide_eq_true (show 0 ≤ (i : Int) by omega), decide_eq_true (show i < n by omega), decide_eq_true (show i < P.length by omega), decide_eq_true (show i < R.length by omega), decide_eq_true (show i < S.length by omega), decide_eq_true (show i < A.length by omega), decide_eq_true (show i < G.length by omega), up1_nat (by omega), ask_eq, hq, cond_false, Bool.or_true, Bool.or_true] at h
    exact (H_head (f := Try.f16) (cuts := xC 9) (ns := [3]) (top := 99) hE_census_Sum_plus mixedP rfl h).trans (Goes.ren (P := Try.prog) (B := 1) (σ := [(0, 0), (2, 2), (3, 3)]) (nx := 4) rfl)
theorem g4z (P R S A : List Int) (G : List Bool) (nn : Bool) (n : Nat) (c : Option Nat) (s k a : Nat) (wv : Int) (l : List KV) (ha : a < 8) : Goes Try.prog 1 ⟨hd Try.f16 3, xT nn n c (xV l) (vi (s : Int)) (vi (k : Int)) (vi (a : Int)) (.ptr 2 1 0 0) (vi (n : Int)), ⟨[x0 P R S A G, x2 (s : Int) (k : Int) (a : Int) ((0 : Nat) : Int) wv] ++ xB l, 4⟩⟩ ⟨hd Try.f16 2, xT nn n c (xV l) (vi (s : Int)) (vi (k : Int)) (vi ((a + 1 : Nat) : Int)) .unk .unk, ⟨[x0 P R S A G] ++ xB l, 4⟩⟩ := by
  match l with
  | [] =>
    have h := x4N P R S A G nn n c (s : Int) (k : Int) (a : Int) ((0 : Nat) : Int) wv (n : Int)
    rw [decide_eq_false (show ¬ (n : Int) < Int.ofNat n by show ¬ (n : Int) < (n : Int); omega), cond_false, decide_eq_false (show ¬ 0 < ((0 : Nat) : Int) by omega), cond_false, up1_nat (by omega)] at h
    exact (H_head (f := Try.f16) (cuts := xC 9) (ns := []) (top := 99) hE_census_Sum_plus mixedP rfl h).trans (Goes.ren (P := Try.prog) (B := 1) (σ := [(0, 0)]) (nx := 4) rfl)
  | e :: l =>
    have h := x4Y P R S A G nn n c (e :: l) (e :: l).length (s : Int) (k : Int) (a : Int) ((0 : Nat) : Int) wv (n : Int)
    rw [decide_eq_false (show ¬ (n : Int) < Int.ofNat n by show ¬ (n : Int) < (n : Int); omega), cond_false, decide_eq_false (show ¬ 0 < ((0 : Nat) : Int) by omega), cond_false, up1_nat (by omega)] at h
    exact (H_head (f := Try.f16) (cuts := xC 9) (ns := [3]) (top := 99) hE_census_Sum_plus mixedP rfl h).trans (Goes.ren (P := Try.prog) (B := 1) (σ := [(0, 0), (3, 3)]) (nx := 4) rfl)
theorem g4p (P R S A : List Int) (G : List Bool) (nn : Bool) (n : Nat) (c : Option Nat) (s k a co : Nat) (wv : Int) (l : List KV) (ha : a < 8) (hc : 0 < co) (hl : l.length ≤ 4000) : Goes Try.prog 1 ⟨hd Try.f16 3, xT nn n c (xV l) (vi (s : Int)) (vi (k : Int)) (vi (a : Int)) (.ptr 2 1 0 0) (vi (n : Int)), ⟨[x0 P R S A G, x2 (s : Int) (k : Int) (a : Int) (co : Int) wv] ++ xB l, 4⟩⟩ ⟨hd Try.f16 2, xT nn n c (xV (l ++ [([(s : Int), (k : Int), (a : Int)], [(co : Int), wv])])) (vi (s : Int)) (vi (k : Int)) (vi ((a + 1 : Nat) : Int)) .unk .unk, ⟨[x0 P R S A G] ++ xB (l ++ [([(s : Int), (k : Int), (a : Int)], [(co : Int), wv])]), 4⟩⟩ := by
  match l, hl with
  | [], _ =>
    have h := x4N P R S A G nn n c (s : Int) (k : Int) (a : Int) (co : Int) wv (n : Int)
    rw [decide_eq_false (show ¬ (n : Int) < Int.ofNat n by show ¬ (n : Int) < (n : Int); omega), cond_false, decide_eq_true (show 0 < (co : Int) by omega), cond_true, up1_nat (by omega)] at h
    exact (H_head (f := Try.f16) (cuts := xC 9) (ns := []) (top := 99) hE_census_Sum_plus mixedP rfl h).trans (Goes.ren (P := Try.prog) (B := 1) (σ := [(0, 0), (3, 5)]) (nx := 4) rfl)
  | e :: l, hl =>
    have h := x4Y P R S A G nn n c (e :: l) (e :: l).length (s : Int) (k : Int) (a : Int) (co : Int) wv (n : Int)
    have e1 : ∀ f : KV → Int, List.take (e :: l).length ((e :: l).map f) = (e :: l).map f := fun f => List.take_of_length_le (by rw [List.length_map]; omega)
    have hl' : (e :: l).length ≤ 4000 := hl
    rw [decide_eq_false (show ¬ (n : Int) < Int.ofNat n by show ¬ (n : Int) < (n : Int); omega), cond_false, decide_eq_true (show 0 < (co : Int) by omega), cond_true, up1_nat (by omega), decide_eq_true (show 0 < (e :: l).length from Nat.succ_pos _), decide_eq_true (show ((e :: l).length + 1) * 40 ≤ 140737488355328 by omega),
      List.length_map, List.length_map, List.length_map, List.length_map, List.length_map, decide_eq_true (Nat.le_refl (e :: l).length), e1, e1, e1, e1, e1] at h
    have g := (H_head (f := Try.f16) (cuts := xC 9) (ns := [3]) (top := 99) hE_census_Sum_plus mixedP rfl h).trans (Goes.ren (P := Try.prog) (B := 1) (σ := [(0, 0), (3, 5)]) (nx := 4) rfl)
    have e2 : ∀ (f : KV → Int) (x : KV), (e :: l).map f ++ [f x] = (e :: l ++ [x]).map f := fun f x => by rw [List.map_append]; rfl
    have e3 : (e :: l).length + 1 = (e :: l ++ [([(s : Int), (k : Int), (a : Int)], [(co : Int), wv])]).length := by simp
    have q := e2 kA ([(s : Int), (k : Int), (a : Int)], [(co : Int), wv])
    have q1 := e2 kB ([(s : Int), (k : Int), (a : Int)], [(co : Int), wv])
    have q2 := e2 kC ([(s : Int), (k : Int), (a : Int)], [(co : Int), wv])
    have q3 := e2 kD ([(s : Int), (k : Int), (a : Int)], [(co : Int), wv])
    have q4 := e2 kE ([(s : Int), (k : Int), (a : Int)], [(co : Int), wv])
    simp only [kA, kB, kC, kD, kE, List.headD_cons, List.tail_cons] at q q1 q2 q3 q4
    have gg : ∀ (c0 c1 c2 c3 c4 : List Int) (z : Nat), c0 = (e :: l ++ [([(s : Int), (k : Int), (a : Int)], [(co : Int), wv])]).map kA → c1 = (e :: l ++ [([(s : Int), (k : Int), (a : Int)], [(co : Int), wv])]).map kB → c2 = (e :: l ++ [([(s : Int), (k : Int), (a : Int)], [(co : Int), wv])]).map kC → c3 = (e :: l ++ [([(s : Int), (k : Int), (a : Int)], [(co : Int), wv])]).map kD → c4 = (e :: l ++ [([(s : Int), (k : Int), (a : Int)], [(co : Int), wv])]).map kE →
        z = (e :: l ++ [([(s : Int), (k : Int), (a : Int)], [(co : Int), wv])]).length →
        Goes Try.prog 1 ⟨hd Try.f16 3, xT nn n c (xV (e :: l)) (vi (s : Int)) (vi (k : Int)) (vi (a : Int)) (.ptr 2 1 0 0) (vi (n : Int)), ⟨[x0 P R S A G, x2 (s : Int) (k : Int) (a : Int) (co : Int) wv] ++ xB (e :: l), 4⟩⟩ ⟨hd Try.f16 2, xT nn n c (.sl true 3 5 0 1 z none) (vi (s : Int)) (vi (k : Int)) (vi ((a + 1 : Nat) : Int)) .unk .unk, ⟨[x0 P R S A G, (3, some ⟨true, true, .rows [.ints .i64 c0, .ints .i64 c1, .ints .i64 c2, .ints .i64 c3, .ints .i64 c4]⟩)], 4⟩⟩ →
        Goes Try.prog 1 ⟨hd Try.f16 3, xT nn n c (xV (e :: l)) (vi (s : Int)) (vi (k : Int)) (vi (a : Int)) (.ptr 2 1 0 0) (vi (n : Int)), ⟨[x0 P R S A G, x2 (s : Int) (k : Int) (a : Int) (co : Int) wv] ++ xB (e :: l), 4⟩⟩ ⟨hd Try.f16 2, xT nn n c (xV (e :: l ++ [([(s : Int), (k : Int), (a : Int)], [(co : Int), wv])])) (vi (s : Int)) (vi (k : Int)) (vi ((a + 1 : Nat) : Int)) .unk .unk, ⟨[x0 P R S A G] ++ xB (e :: l ++ [([(s : Int), (k : Int), (a : Int)], [(co : Int), wv])]), 4⟩⟩ := fun c0 c1 c2 c3 c4 z h0 h1 h2 h3 h4 hz hg => by subst h0 h1 h2 h3 h4 hz; exact hg
    exact gg _ _ _ _ _ _ q q1 q2 q3 q4 e3 g
def rowV (k : List Int) (c : Nat) (w : Int) : List KV := if c = 0 then [] else [(k, [(c : Int), w])]
theorem cnt_yes {k : List Int} {h : Hd} (hh : isK k h = true) (H : List Hd) : cnt k (h :: H) = 1 + cnt k H ∧ wrd k (h :: H) = 1 + h.1 + h.2.1 + wrd k H := by
  simp [cnt, wrd, hh]
theorem cnt_no {k : List Int} {h : Hd} (hh : isK k h = false) (H : List Hd) : cnt k (h :: H) = cnt k H ∧ wrd k (h :: H) = wrd k H := by
  simp [cnt, wrd, hh]
/-- All headers gone over, for one kind. -/
theorem xl4 (P R S A : List Int) (G : List Bool) (nn : Bool) (n : Nat) (c : Option Nat) (hn : n ≤ 4096) (hP : n ≤ P.length) (hR : n ≤ R.length) (hS : n ≤ S.length) (hA : n ≤ A.length) (hG : n ≤ G.length) (s k a : Nat) (ha : a < 8) (l : List KV) (hl : l.length ≤ 4000) : ∀ (j i co : Nat) (wv : Int), i + j = n → co + j ≤ n → 0 ≤ wv → wv ≤ 8191 * co →
    Goes Try.prog 1 ⟨hd Try.f16 3, xT nn n c (xV l) (vi (s : Int)) (vi (k : Int)) (vi (a : Int)) (.ptr 2 1 0 0) (vi (i : Int)), ⟨[x0 P R S A G, x2 (s : Int) (k : Int) (a : Int) (co : Int) wv] ++ xB l, 4⟩⟩ ⟨hd Try.f16 2, xT nn n c (xV (l ++ rowV [(s : Int), (k : Int), (a : Int)] (co + cnt [(s : Int), (k : Int), (a : Int)] (hdI P R S A i j)) (wv + wrd [(s : Int), (k : Int), (a : Int)] (hdI P R S A i j)))) (vi (s : Int)) (vi (k : Int)) (vi ((a + 1 : Nat) : Int)) .unk .unk, ⟨[x0 P R S A G] ++ xB (l ++ rowV [(s : Int), (k : Int), (a : Int)] (co + cnt [(s : Int), (k : Int), (a : Int)] (hdI P R S A i j)) (wv + wrd [(s : Int), (k : Int), (a : Int)] (hdI P R S A i j))), 4⟩⟩
  | 0, i, co, wv, hi, hc, h0, h1 => by
    have e : n = i := by omega
    subst e
    have e0 : hdI P R S A n 0 = [] := rfl
    rw [e0]
    show Goes Try.prog 1 _ ⟨hd Try.f16 2, xT nn n c (xV (l ++ rowV [(s : Int), (k : Int), (a : Int)] (co + 0) (wv + 0))) (vi (s : Int)) (vi (k : Int)) (vi ((a + 1 : Nat) : Int)) .unk .unk, ⟨[x0 P R S A G] ++ xB (l ++ rowV [(s : Int), (k : Int), (a : Int)] (co + 0) (wv + 0)), 4⟩⟩
    by_cases hz : co = 0
    · subst hz
      have ez : ∀ w : Int, rowV [(s : Int), (k : Int), (a : Int)] 0 w = [] := fun w => rfl
      rw [Int.add_zero, Nat.add_zero, ez, List.append_nil]
      exact g4z P R S A G nn n c s k a wv l ha
    · have ez : rowV [(s : Int), (k : Int), (a : Int)] co wv = [([(s : Int), (k : Int), (a : Int)], [(co : Int), wv])] := if_neg hz
      rw [Int.add_zero, Nat.add_zero, ez]
      exact g4p P R S A G nn n c s k a co wv l ha (by omega) hl
  | j + 1, i, co, wv, hi, hc, h0, h1 => by
    rw [hdI_succ]
    cases hq : isK [(s : Int), (k : Int), (a : Int)] (hdAt P R S A i) with
    | true =>
      have hk := ask_bounds hq
      have g := (g4y P R S A G nn n c s k a co i wv l (by omega) hn hP hR hS hA hG hq (by omega) ⟨h0, by omega⟩).trans (xl4 P R S A G nn n c hn hP hR hS hA hG s k a ha l hl j (i + 1) (co + 1) (wv + (1 + P.getD i 0 + R.getD i 0)) (by omega) (by omega) (by omega) (by omega))
      obtain ⟨y1, y2⟩ := cnt_yes hq (hdI P R S A (i + 1) j)
      rw [y1, y2]
      have e1 : co + 1 + cnt [(s : Int), (k : Int), (a : Int)] (hdI P R S A (i + 1) j) = co + (1 + cnt [(s : Int), (k : Int), (a : Int)] (hdI P R S A (i + 1) j)) := by omega
      have e2 : wv + (1 + P.getD i 0 + R.getD i 0) + wrd [(s : Int), (k : Int), (a : Int)] (hdI P R S A (i + 1) j) = wv + (1 + P.getD i 0 + R.getD i 0 + wrd [(s : Int), (k : Int), (a : Int)] (hdI P R S A (i + 1) j)) := by omega
      rw [e1, e2] at g
      exact g
    | false =>
      have g := (g4n P R S A G nn n c s k a co i wv l (by omega) hn hP hR hS hA hG hq (by omega) ⟨h0, by omega⟩).trans (xl4 P R S A G nn n c hn hP hR hS hA hG s k a ha l hl j (i + 1) co wv (by omega) (by omega) h0 h1)
      obtain ⟨y1, y2⟩ := cnt_no hq (hdI P R S A (i + 1) j)
      rw [y1, y2]
      exact g
theorem rowK_len (H : List Hd) (k : List Int) : (rowK H k).length ≤ 1 := by
  unfold rowK
  split <;> simp
theorem rfA_succ (H : List Hd) (s c : Int) (i j : Nat) : rfA H s c i (j + 1) = rowK H [s, c, (i : Int)] ++ rfA H s c (i + 1) j := by simp [rfA, List.range'_succ]
theorem rfC_succ (H : List Hd) (s : Int) (i j : Nat) : rfC H s i (j + 1) = rfA H s (i : Int) 0 8 ++ rfC H s (i + 1) j := by simp [rfC, List.range'_succ]
theorem rfS_succ (H : List Hd) (i j : Nat) : rfS H i (j + 1) = rfC H (i : Int) 0 14 ++ rfS H (i + 1) j := by simp [rfS, List.range'_succ]
theorem rfA_len (H : List Hd) (s c : Int) : ∀ (j i : Nat), (rfA H s c i j).length ≤ j
  | 0, _ => Nat.le_refl _
  | j + 1, i => by
    rw [rfA_succ, List.length_append]
    have := rowK_len H [s, c, (i : Int)]
    have := rfA_len H s c j (i + 1)
    omega
theorem rfC_len (H : List Hd) (s : Int) : ∀ (j i : Nat), (rfC H s i j).length ≤ 8 * j
  | 0, _ => Nat.le_refl _
  | j + 1, i => by
    rw [rfC_succ, List.length_append]
    have := rfA_len H s (i : Int) 8 0
    have := rfC_len H s j (i + 1)
    omega
theorem rfS_len (H : List Hd) : ∀ (j i : Nat), (rfS H i j).length ≤ 112 * j
  | 0, _ => Nat.le_refl _
  | j + 1, i => by
    rw [rfS_succ, List.length_append]
    have := rfC_len H (i : Int) 14 0
    have := rfS_len H j (i + 1)
    omega
theorem xl3 (P R S A : List Int) (G : List Bool) (nn : Bool) (n : Nat) (c : Option Nat) (hn : n ≤ 4096) (hP : n ≤ P.length) (hR : n ≤ R.length) (hS : n ≤ S.length) (hA : n ≤ A.length) (hG : n ≤ G.length) (s k : Nat) (hk : k < 14) : ∀ (j a : Nat) (l : List KV), a + j = 8 → l.length + j ≤ 4000 →
    Goes Try.prog 1 ⟨hd Try.f16 2, xT nn n c (xV l) (vi (s : Int)) (vi (k : Int)) (vi (a : Int)) .unk .unk, ⟨[x0 P R S A G] ++ xB l, 4⟩⟩ ⟨hd Try.f16 1, xT nn n c (xV (l ++ rfA (hdI P R S A 0 n) (s : Int) (k : Int) a j)) (vi (s : Int)) (vi ((k + 1 : Nat) : Int)) .unk .unk .unk, ⟨[x0 P R S A G] ++ xB (l ++ rfA (hdI P R S A 0 n) (s : Int) (k : Int) a j), 4⟩⟩
  | 0, a, l, hi, hl => by
    have e : a = 8 := by omega
    subst e
    have e0 : rfA (hdI P R S A 0 n) (s : Int) (k : Int) 8 0 = [] := rfl
    rw [e0, List.append_nil]
    exact g3e P R S A G nn n c s k l hk
  | j + 1, a, l, hi, hl => by
    have g := (g3 P R S A G nn n c s k a l (by omega)).trans (xl4 P R S A G nn n c hn hP hR hS hA hG s k a (by omega) l (by omega) n 0 0 0 (by omega) (by omega) (by omega) (by omega))
    rw [rfA_succ, ← List.append_assoc]
    have hr := rowK_len (hdI P R S A 0 n) [(s : Int), (k : Int), (a : Int)]
    have g2 := xl3 P R S A G nn n c hn hP hR hS hA hG s k hk j (a + 1) (l ++ rowK (hdI P R S A 0 n) [(s : Int), (k : Int), (a : Int)]) (by omega) (by rw [List.length_append]; omega)
    refine Goes.trans ?_ g2
    simp only [Nat.zero_add, Int.zero_add] at g
    exact g
theorem xl2 (P R S A : List Int) (G : List Bool) (nn : Bool) (n : Nat) (c : Option Nat) (hn : n ≤ 4096) (hP : n ≤ P.length) (hR : n ≤ R.length) (hS : n ≤ S.length) (hA : n ≤ A.length) (hG : n ≤ G.length) (s : Nat) (hs : s < 32) : ∀ (j k : Nat) (l : List KV), k + j = 14 → l.length + 8 * j ≤ 4000 →
    Goes Try.prog 1 ⟨hd Try.f16 1, xT nn n c (xV l) (vi (s : Int)) (vi (k : Int)) .unk .unk .unk, ⟨[x0 P R S A G] ++ xB l, 4⟩⟩ ⟨hd Try.f16 0, xT nn n c (xV (l ++ rfC (hdI P R S A 0 n) (s : Int) k j)) (vi ((s + 1 : Nat) : Int)) .unk .unk .unk .unk, ⟨[x0 P R S A G] ++ xB (l ++ rfC (hdI P R S A 0 n) (s : Int) k j), 4⟩⟩
  | 0, k, l, hi, hl => by
    have e : k = 14 := by omega
    subst e
    have e0 : rfC (hdI P R S A 0 n) (s : Int) 14 0 = [] := rfl
    rw [e0, List.append_nil]
    exact g2e P R S A G nn n c s l hs
  | j + 1, k, l, hi, hl => by
    have g := (g2 P R S A G nn n c s k l (by omega)).trans (xl3 P R S A G nn n c hn hP hR hS hA hG s k (by omega) 8 0 l (by omega) (by omega))
    rw [rfC_succ, ← List.append_assoc]
    have hr := rfA_len (hdI P R S A 0 n) (s : Int) (k : Int) 8 0
    exact g.trans (xl2 P R S A G nn n c hn hP hR hS hA hG s hs j (k + 1) (l ++ rfA (hdI P R S A 0 n) (s : Int) (k : Int) 0 8) (by omega) (by rw [List.length_append]; omega))
theorem xl1 (P R S A : List Int) (G : List Bool) (nn : Bool) (n : Nat) (c : Option Nat) (hn : n ≤ 4096) (hP : n ≤ P.length) (hR : n ≤ R.length) (hS : n ≤ S.length) (hA : n ≤ A.length) (hG : n ≤ G.length) : ∀ (j s : Nat) (l : List KV), s + j = 32 → l.length + 112 * j ≤ 4000 →
    Gives_ Try.prog Try.f16 1 ⟨hd Try.f16 0, xT nn n c (xV l) (vi (s : Int)) .unk .unk .unk .unk, ⟨[x0 P R S A G] ++ xB l, 4⟩⟩ (xV (l ++ rfS (hdI P R S A 0 n) s j)) ⟨xB (l ++ rfS (hdI P R S A 0 n) s j), 99⟩
  | 0, s, l, hi, hl => by
    have e : s = 32 := by omega
    subst e
    have e0 : rfS (hdI P R S A 0 n) 32 0 = [] := rfl
    rw [e0, List.append_nil]
    match l with
    | [] =>
      have h := x1N P R S A G nn n c ((32 : Nat) : Int)
      rw [decide_eq_false (show ¬ ((32 : Nat) : Int) < 32 by omega), cond_false] at h
      exact H_ret (f := Try.f16) (cuts := xC 9) (ns := []) (top := 99) hE_census_Sum_plus mixedP rfl h
    | e :: l =>
      have h := x1Y P R S A G nn n c (e :: l) (e :: l).length ((32 : Nat) : Int)
      rw [decide_eq_false (show ¬ ((32 : Nat) : Int) < 32 by omega), cond_false] at h
      exact H_ret (f := Try.f16) (cuts := xC 9) (ns := [3]) (top := 99) hE_census_Sum_plus mixedP rfl h
  | j + 1, s, l, hi, hl => by
    have g := (g1 P R S A G nn n c s l (by omega)).trans (xl2 P R S A G nn n c hn hP hR hS hA hG s (by omega) 14 0 l (by omega) (by omega))
    rw [rfS_succ, ← List.append_assoc]
    have hr := rfC_len (hdI P R S A 0 n) (s : Int) 14 0
    exact g.gives (xl1 P R S A G nn n c hn hP hR hS hA hG j (s + 1) (l ++ rfC (hdI P R S A 0 n) (s : Int) 0 14) (by omega) (by rw [List.length_append]; omega))
theorem x_all (P R S A : List Int) (G : List Bool) (nn : Bool) (n : Nat) (c : Option Nat) (hn : n ≤ 4096) (hP : n ≤ P.length) (hR : n ≤ R.length) (hS : n ≤ S.length) (hA : n ≤ A.length) (hG : n ≤ G.length) : Gives_ Try.prog Try.f16 1 (enterA Try.f16 (bodyOf Try.f16) [.sl nn 0 5 0 1 n c] ⟨[x0 P R S A G], 1⟩) (xV (RF (hdI P R S A 0 n))) ⟨xB (RF (hdI P R S A 0 n)), 99⟩ :=
  Goes.gives ((F_head (f := Try.f16) (c := bodyOf Try.f16) (m := ⟨[x0 P R S A G], 1⟩) (cuts := xC 9) (ns := []) (top := 99) hE_census_Sum_plus mixedP rfl rfl (xiN P R S A G nn n c)).trans (Goes.ren (P := Try.prog) (B := 1) (σ := [(0, 0)]) (nx := 4) rfl)) (xl1 P R S A G nn n c hn hP hR hS hA hG 32 0 [] (by omega) (by simp))
def e_rrows : Spec := fun m args => match args with
  | [.sl _ l 5 0 1 n _] => match look m.bl l with
    | some ⟨_, _, .rows [.ints .i64 P, .ints .i64 R, .ints .i64 S, .ints .i64 A, .bools G]⟩ => some (.sl false m.nx 5 0 1 (RF (hdI P R S A 0 n)).length none, some ⟨(m.nx, some ⟨false, false, .rows (colsF fs5 (RF (hdI P R S A 0 n)))⟩) :: m.bl, m.nx + 1⟩,
        [Nat.ble n 4096, Nat.ble n P.length, Nat.ble n R.length, Nat.ble n S.length, Nat.ble n A.length, Nat.ble n G.length])
    | _ => none
  | _ => none
theorem ok_rrows : SpecOk Try.prog 16 e_rrows := fun m args v mo bs h hb => by
  unfold e_rrows at h
  split at h
  · rename_i nn l n cap
    split at h <;> cases h
    rename_i wr op P R S A G hl
    simp only [List.all_cons, List.all_nil, id, Bool.and_true, Bool.and_eq_true] at hb
    obtain ⟨h2, h3, h4, h5, h6, h7⟩ := hb
    have g := x_all P R S A G false n none (Nat.le_of_ble_eq_true h2) (Nat.le_of_ble_eq_true h3) (Nat.le_of_ble_eq_true h4) (Nat.le_of_ble_eq_true h5) (Nat.le_of_ble_eq_true h6) (Nat.le_of_ble_eq_true h7)
    refine lift_list (m1 := ⟨[x0 P R S A G], 1⟩) (args1 := [.sl false 0 5 0 1 n none]) rfl rfl rfl (sim_sl (br := []) hl rfl rfl rfl) ?_
    generalize RF (hdI P R S A 0 n) = L at g
    match L with
    | [] =>
      refine .inl ⟨rfl, fun r c' a ha => ?_, _, fsound (c := bodyOf Try.f16) (fun xs w => Try.call16 xs w) Try.func16 rfl g⟩
      match c', ha with
      | 0, ha => simp [Cont.at, Col.at, colsF] at ha
      | 1, ha => simp [Cont.at, Col.at, colsF] at ha
      | 2, ha => simp [Cont.at, Col.at, colsF] at ha
      | 3, ha => simp [Cont.at, Col.at, colsF] at ha
      | 4, ha => simp [Cont.at, Col.at, colsF] at ha
      | c' + 5, ha => cases ha
    | e :: L => exact .inr ⟨_, _, _, _, _, _, rfl, says_self rfl, fsound (c := bodyOf Try.f16) (fun xs w => Try.call16 xs w) Try.func16 rfl g⟩
  · cases h
end Go.Proofs.Ytbjealobiblabaa

namespace Go.Proofs.Ytbjealobiblabaa
open Go Go.RowKit
set_option maxRecDepth 100000
abbrev aN (zss : List (List Int)) (hss : List (List H5)) : Nat × Option ABlk := (0, some ⟨false, false, .obj (.nest [.ints .i64 zss, .heads hss] [])⟩)
abbrev aZ (zss : List (List Int)) (j k : Nat) : AV := .sl false k 1 0 1 (zss.getD j []).length none
abbrev aH (hss : List (List H5)) (j k : Nat) : AV := .sl false k 5 0 1 (hss.getD j []).length none
/-- Row j's asks are named. -/
abbrev aF1 (zss : List (List Int)) (hss : List (List H5)) (j k : Nat) (r : List (Nat × Option ABlk)) : List (Nat × Option ABlk) := (k, some ⟨false, false, .col (.ints .i64 (zss.getD j []))⟩) :: (0, some ⟨false, false, .obj (.nest [.ints .i64 zss, .heads hss] [(0, j, aZ zss j k)])⟩) :: r
/-- Row j's headers are named. -/
abbrev aF2 (zss : List (List Int)) (hss : List (List H5)) (j k : Nat) (r : List (Nat × Option ABlk)) : List (Nat × Option ABlk) := (k, some ⟨false, false, h5C (hss.getD j [])⟩) :: (0, some ⟨false, false, .obj (.nest [.ints .i64 zss, .heads hss] [(1, j, aH hss j k)])⟩) :: r
/-- Both are named. -/
abbrev aF3 (zss : List (List Int)) (hss : List (List H5)) (j k : Nat) (r : List (Nat × Option ABlk)) : List (Nat × Option ABlk) := (k + 1, some ⟨false, false, h5C (hss.getD j [])⟩) :: (k, some ⟨false, false, .col (.ints .i64 (zss.getD j []))⟩) :: (0, some ⟨false, false, .obj (.nest [.ints .i64 zss, .heads hss] [(1, j, aH hss j (k + 1)), (0, j, aZ zss j k)])⟩) :: r
section
variable {B : Nat} {todo : List Item} {tm : List AV} {zss : List (List Int)} {hss : List (List H5)} {r : List (Nat × Option ABlk)}
theorem foc1 (k i : Nat) (hi : i < zss.length) : Goes Try.prog B ⟨todo, tm, ⟨aN zss hss :: r, k⟩⟩ ⟨todo, tm, ⟨aF1 zss hss i k r, k + 1⟩⟩ :=
  Goes.focus (P := Try.prog) (B := B) (todo := todo) (tm := tm) (m := ⟨aN zss hss :: r, k⟩) 0 0 i rfl rfl (by simpa [NCol.len] using hi)
theorem foc2 (k i : Nat) (hi : i < hss.length) : Goes Try.prog B ⟨todo, tm, ⟨aN zss hss :: r, k⟩⟩ ⟨todo, tm, ⟨aF2 zss hss i k r, k + 1⟩⟩ :=
  Goes.focus (P := Try.prog) (B := B) (todo := todo) (tm := tm) (m := ⟨aN zss hss :: r, k⟩) 0 1 i rfl rfl (by simpa [NCol.len] using hi)
theorem foc3 (k i : Nat) (hi : i < zss.length) (hi2 : i < hss.length) : Goes Try.prog B ⟨todo, tm, ⟨aN zss hss :: r, k + 1⟩⟩ ⟨todo, tm, ⟨aF3 zss hss i (k + 1) r, k + 1 + 2⟩⟩ :=
  (foc1 (k + 1) i hi).trans (Goes.focus (P := Try.prog) (B := B) (todo := todo) (tm := tm) (m := ⟨aF1 zss hss i (k + 1) r, k + 1 + 1⟩) (nc := .heads hss) 0 1 i rfl rfl (by simpa [NCol.len] using hi2))
end
-- Few
abbrev fwC (a : Nat) : List Cut := [(2,[0,3],[0],a)]
abbrev fwT (nn : Bool) (n : Nat) (c : Option Nat) (i : Int) : List AV := [.sl nn 0 2 0 1 n c, .unk, .unk, vi i] ++ List.replicate 29 .unk
theorem fw_in (zss : List (List Int)) (hss : List (List H5)) (nn : Bool) (n : Nat) (c : Option Nat) : F_ Try.prog [] Try.f51 (fwC 9) [] 99 [.sl nn 0 2 0 1 n c] ⟨[aN zss hss], 1⟩ = some (.head (hd Try.f51 0) (fwT nn n c 0) ⟨[aN zss hss], 9⟩ true) := by kernel_rfl
theorem fw_end (zss : List (List Int)) (hss : List (List H5)) (nn : Bool) (n : Nat) (c : Option Nat) (i : Int) : HO_ Try.prog [] Try.f51 (fwC 9) [] 99 [0] (hd Try.f51 0) (fwT nn n c i) ⟨[aN zss hss], 1⟩ = some (.ret (vb (decide (Int.ofNat n ≤ 12))) ⟨[], 99⟩ (conj [!(bif decide (i < Int.ofNat n) then decide (i < 12) else false)])) := by kernel_rfl
theorem fw_go (zss : List (List Int)) (hss : List (List H5)) (nn : Bool) (n j : Nat) (c : Option Nat) (i : Int) : HO_ Try.prog [] Try.f51 (fwC 9) [] 99 [1, 0] (hd Try.f51 0) (fwT nn n c i) ⟨aF3 zss hss j 1 [], 3⟩ = some (.head (hd Try.f51 0) (fwT nn n c (up1 i)) ⟨[aN zss hss], 9⟩ (conj [(bif decide (i < Int.ofNat n) then decide (i < 12) else false), decide (0 ≤ i), decide (i.toNat < n), Nat.beq (iz i) j, !!decide (20 < Int.ofNat (zss.getD j []).length) || decide (0 ≤ i), !!decide (20 < Int.ofNat (zss.getD j []).length) || decide (i.toNat < n), !!decide (20 < Int.ofNat (zss.getD j []).length) || Nat.beq (iz i) j, !(bif decide (20 < Int.ofNat (zss.getD j []).length) then true else decide (20 < Int.ofNat (hss.getD j []).length))])) := by kernel_rfl
theorem fw_no (zss : List (List Int)) (hss : List (List H5)) (nn : Bool) (n j : Nat) (c : Option Nat) (i : Int) : HO_ Try.prog [] Try.f51 (fwC 9) [] 99 [1, 1] (hd Try.f51 0) (fwT nn n c i) ⟨aF3 zss hss j 1 [], 3⟩ = some (.ret (vb false) ⟨[], 99⟩ (conj [(bif decide (i < Int.ofNat n) then decide (i < 12) else false), decide (0 ≤ i), decide (i.toNat < n), Nat.beq (iz i) j, !!decide (20 < Int.ofNat (zss.getD j []).length) || decide (0 ≤ i), !!decide (20 < Int.ofNat (zss.getD j []).length) || decide (i.toNat < n), !!decide (20 < Int.ofNat (zss.getD j []).length) || Nat.beq (iz i) j, (bif decide (20 < Int.ofNat (zss.getD j []).length) then true else decide (20 < Int.ofNat (hss.getD j []).length))])) := by kernel_rfl
def bigF (zss : List (List Int)) (hss : List (List H5)) (i : Nat) : Bool := bif decide (20 < Int.ofNat (zss.getD i []).length) then true else decide (20 < Int.ofNat (hss.getD i []).length)
def fewL (zss : List (List Int)) (hss : List (List H5)) (n : Nat) : Nat → Nat → Bool
  | 0, _ => decide (Int.ofNat n ≤ 12)
  | j + 1, i => bif bigF zss hss i then false else fewL zss hss n j (i + 1)
def fewF (zss : List (List Int)) (hss : List (List H5)) (n : Nat) : Bool := fewL zss hss n (min n 12) 0
theorem few_loop (zss : List (List Int)) (hss : List (List H5)) (nn : Bool) (n : Nat) (c : Option Nat) (hz : zss.length = n) (hh : hss.length = n) : ∀ (j i : Nat), i + j = min n 12 → Gives_ Try.prog Try.f51 1 ⟨hd Try.f51 0, fwT nn n c (i : Int), ⟨[aN zss hss], 1⟩⟩ (vb (fewL zss hss n j i)) ⟨[], 99⟩
  | 0, i, hi => by
    have h := fw_end zss hss nn n c (i : Int)
    have e : (bif decide ((i : Int) < Int.ofNat n) then decide ((i : Int) < 12) else false) = false := by
      by_cases h1 : (i : Int) < Int.ofNat n
      · have h1' : (i : Int) < (n : Int) := h1
        rw [decide_eq_true h1, cond_true]; exact decide_eq_false (by omega)
      · rw [decide_eq_false h1]; rfl
    rw [e] at h
    exact HO_ret env_nil mixedP rfl h rfl
  | j + 1, i, hi => by
    have e : (bif decide ((i : Int) < Int.ofNat n) then decide ((i : Int) < 12) else false) = true := by
      rw [decide_eq_true (show (i : Int) < Int.ofNat n by show (i : Int) < (n : Int); omega), cond_true]; exact decide_eq_true (by omega)
    have q1 : decide (0 ≤ (i : Int)) = true := decide_eq_true (by omega)
    have q2 : decide ((i : Int).toNat < n) = true := decide_eq_true (by omega)
    have q3 : Nat.beq (iz (i : Int)) i = true := by rw [iz_nat, Nat.beq_refl]
    rw [fewL]
    cases hb : bigF zss hss i with
    | true =>
      have h := fw_no zss hss nn n i c (i : Int)
      rw [conj_tt (by simp only [e, q1, q2, q3, show (bif decide (20 < Int.ofNat (zss.getD i []).length) then true else decide (20 < Int.ofNat (hss.getD i []).length)) = true from hb, Bool.or_true]; rfl)] at h
      exact (foc3 0 i (by omega) (by omega)).gives (HO_ret env_nil mixedP rfl h rfl)
    | false =>
      have h := fw_go zss hss nn n i c (i : Int)
      rw [conj_tt (by simp only [e, q1, q2, q3, show (bif decide (20 < Int.ofNat (zss.getD i []).length) then true else decide (20 < Int.ofNat (hss.getD i []).length)) = false from hb, Bool.or_true]; rfl), up1_nat (by omega)] at h
      exact ((foc3 0 i (by omega) (by omega)).trans ((HO_head env_nil mixedP rfl h rfl).trans (Goes.ren (P := Try.prog) (B := 1) (σ := [(0, 0)]) (nx := 1) rfl))).gives (few_loop zss hss nn n c hz hh j (i + 1) (by omega))
theorem few_all (zss : List (List Int)) (hss : List (List H5)) (nn : Bool) (n : Nat) (c : Option Nat) (hz : zss.length = n) (hh : hss.length = n) : Gives_ Try.prog Try.f51 1 (enterA Try.f51 (bodyOf Try.f51) [.sl nn 0 2 0 1 n c] ⟨[aN zss hss], 1⟩) (vb (fewF zss hss n)) ⟨[], 99⟩ :=
  Goes.gives ((F_head (f := Try.f51) (c := bodyOf Try.f51) (m := ⟨[aN zss hss], 1⟩) (cuts := fwC 9) (ns := []) (top := 99) env_nil mixedP rfl rfl (fw_in zss hss nn n c)).trans (Goes.ren (P := Try.prog) (B := 1) (σ := [(0, 0)]) (nx := 1) rfl)) (few_loop zss hss nn n c hz hh _ 0 (Nat.zero_add _))
def e_few : Spec := fun m args => match args with
  | [.sl _ l 2 0 1 n _] => match look m.bl l with
    | some ⟨false, false, .obj (.nest [.ints .i64 zss, .heads hss] [])⟩ => some (vb (fewF zss hss n), none, [decide (zss.length = n), decide (hss.length = n)])
    | _ => none
  | _ => none
theorem ok_few : SpecOk Try.prog 51 e_few := fun m args v mo bs h hb => by
  unfold e_few at h
  split at h
  · rename_i nn l n c
    split at h <;> cases h
    rename_i zss hss hl
    simp only [List.all_cons, List.all_nil, id, Bool.and_true, Bool.and_eq_true, decide_eq_true_eq] at hb
    refine lift_pure (m1 := ⟨[aN zss hss], 1⟩) (args1 := [.sl nn 0 2 0 1 n c]) (fsound (c := bodyOf Try.f51) (fun xs w => Try.call51 xs w) Try.func51 rfl (few_all zss hss nn n c hb.1 hb.2)) rfl rfl fun ρ w xs hm hx => ?_
    obtain ⟨_, hok⟩ := hm.blk l _ hl
    simp only [AV.rels] at hx
    obtain ⟨x, _, rfl, h1, rfl⟩ := hx
    refine ⟨fun _ => ρ l, mrel_one ⟨hok.lt, (fun r c a ha => by cases ha), (fun h => by cases h), (fun h => by cases h), fun q hq => by cases hq; exact hok.obj _ rfl⟩, ?_⟩
    simp only [AV.rels]
    exact ⟨x, _, rfl, sl_as h1 (by show (0 : Nat) < 1; omega) rfl, rfl⟩
  · cases h
theorem fewL_true {zss : List (List Int)} {hss : List (List H5)} {n : Nat} : ∀ (j i : Nat), fewL zss hss n j i = true → n ≤ 12 ∧ ∀ k, i ≤ k → k < i + j → (zss.getD k []).length ≤ 20 ∧ (hss.getD k []).length ≤ 20
  | 0, i, h => ⟨by
      have : Int.ofNat n ≤ 12 := of_decide_eq_true h
      have h' : (n : Int) ≤ 12 := this
      omega, fun k h1 h2 => by omega⟩
  | j + 1, i, h => by
    rw [fewL] at h
    cases hb : bigF zss hss i with
    | true => rw [hb] at h; cases h
    | false =>
      rw [hb, cond_false] at h
      obtain ⟨h1, h2⟩ := fewL_true j (i + 1) h
      refine ⟨h1, fun k k1 k2 => ?_⟩
      by_cases e : k = i
      · subst e
        unfold bigF at hb
        by_cases g1 : (20 : Int) < Int.ofNat (zss.getD k []).length
        · rw [decide_eq_true g1] at hb; cases hb
        · rw [decide_eq_false g1, cond_false] at hb
          have g2 := of_decide_eq_false hb
          have g1' : ¬ (20 : Int) < ((zss.getD k []).length : Int) := g1
          have g2' : ¬ (20 : Int) < ((hss.getD k []).length : Int) := g2
          omega
      · exact h2 k (by omega) (by omega)
theorem few_true {zss : List (List Int)} {hss : List (List H5)} {n : Nat} (h : fewF zss hss n = true) : n ≤ 12 ∧ ∀ k, k < n → (zss.getD k []).length ≤ 20 ∧ (hss.getD k []).length ≤ 20 := by
  obtain ⟨h1, h2⟩ := fewL_true _ _ h
  exact ⟨h1, fun k hk => h2 k (by omega) (by omega)⟩
end Go.Proofs.Ytbjealobiblabaa

namespace Go.Proofs.Ytbjealobiblabaa
open Go Go.RowKit
set_option maxRecDepth 100000
def e_hint : Spec := fun _ _ => some (.unk, none, [false])
theorem ok_hint : SpecOk Try.prog 1000004 e_hint := fun m args v mo bs h hb => by
  unfold e_hint at h
  cases h
  simp at hb
def e_rrN : Spec := fun m args => match args with
  | [.sl _ l 5 0 1 n _] => match look m.bl l with
    | some ⟨_, _, .rows [.ints .i64 P, .ints .i64 R, .ints .i64 S, .ints .i64 A, .bools G]⟩ => some (.val (.slice none 0 0), none,
        [decide (RF (hdI P R S A 0 n) = []), Nat.ble n 4096, Nat.ble n P.length, Nat.ble n R.length, Nat.ble n S.length, Nat.ble n A.length, Nat.ble n G.length])
    | _ => none
  | _ => none
theorem ok_rrN : SpecOk Try.prog 16 e_rrN := fun m args v mo bs h hb => by
  unfold e_rrN at h
  split at h
  · rename_i nn l n c
    split at h <;> cases h
    rename_i wr op P R S A G hl
    simp only [List.all_cons, List.all_nil, id, Bool.and_true, Bool.and_eq_true, decide_eq_true_eq] at hb
    obtain ⟨h1, h2, h3, h4, h5, h6, h7⟩ := hb
    have g := x_all P R S A G false n none (Nat.le_of_ble_eq_true h2) (Nat.le_of_ble_eq_true h3) (Nat.le_of_ble_eq_true h4) (Nat.le_of_ble_eq_true h5) (Nat.le_of_ble_eq_true h6) (Nat.le_of_ble_eq_true h7)
    rw [h1] at g
    exact lift_pure (m1 := ⟨[x0 P R S A G], 1⟩) (args1 := [.sl false 0 5 0 1 n none]) (fsound (c := bodyOf Try.f16) (fun xs w => Try.call16 xs w) Try.func16 rfl g) rfl rfl (sim_sl (br := []) hl rfl rfl rfl)
  · cases h
def e_rrY (L : List KV) : Spec := fun m args => match args with
  | [.sl _ l 5 0 1 n _] => match look m.bl l with
    | some ⟨_, _, .rows [.ints .i64 P, .ints .i64 R, .ints .i64 S, .ints .i64 A, .bools G]⟩ => some (.sl true m.nx 5 0 1 L.length none, some ⟨(m.nx, some ⟨true, true, .rows (colsF fs5 L)⟩) :: m.bl, m.nx + 1⟩,
        [Nat.blt l m.nx, Nat.blt 0 L.length, decide (RF (hdI P R S A 0 n) = L), Nat.ble n 4096, Nat.ble n P.length, Nat.ble n R.length, Nat.ble n S.length, Nat.ble n A.length, Nat.ble n G.length])
    | _ => none
  | _ => none
theorem ok_rrY (L : List KV) : SpecOk Try.prog 16 (e_rrY L) := fun m args v mo bs h hb => by
  unfold e_rrY at h
  split at h
  · rename_i nn l n c
    split at h <;> cases h
    rename_i wr op P R S A G hl
    simp only [List.all_cons, List.all_nil, id, Bool.and_true, Bool.and_eq_true, decide_eq_true_eq] at hb
    obtain ⟨h0, hp, h1, h2, h3, h4, h5, h6, h7⟩ := hb
    have h0 : l < m.nx := Nat.le_of_ble_eq_true h0
    have hp : 0 < L.length := Nat.le_of_ble_eq_true hp
    have e1 : l ≠ m.nx := by omega
    have g := x_all P R S A G nn n c (Nat.le_of_ble_eq_true h2) (Nat.le_of_ble_eq_true h3) (Nat.le_of_ble_eq_true h4) (Nat.le_of_ble_eq_true h5) (Nat.le_of_ble_eq_true h6) (Nat.le_of_ble_eq_true h7)
    rw [h1] at g
    match L, hp with
    | e :: L, _ =>
      have f := fsound (m := ⟨[x0 P R S A G], 1⟩) (c := bodyOf Try.f16) (fun xs w => Try.call16 xs w) Try.func16 rfl g
      have q := lift_gen (m := m) (args := [.sl nn l 5 0 1 n c]) (σi := [(0, l)]) (σo := [(l, 0), (m.nx, 3)]) (nx' := m.nx + 1) f (by
        simp only [AV.rens, AV.ren, newOf, Nat.beq_refl]) (fun k b1 hk => by
        obtain ⟨rfl, rfl⟩ := look_one hk
        exact ⟨l, _, List.mem_cons_self, hl, (Cont.ren_ground rfl).symm, (fun h => by cases h), fun h => by cases h⟩)
        (fun p hp => by
        rcases List.mem_cons.1 hp with rfl | hp
        · exact ⟨Nat.zero_lt_one, List.mem_cons_self⟩
        · cases hp) rfl (by simp [distB, memB]) (by simp [distB, memB, nbeq_ne e1, nbeq_ne (Ne.symm e1)]) rfl
        (fun p hp => by
        rcases List.mem_cons.1 hp with rfl | hp
        · exact ⟨_, hl⟩
        · cases hp)
        (fun p hp => by
        simp only [List.mem_cons, List.not_mem_nil, or_false] at hp
        rcases hp with rfl | rfl
        · exact .inl List.mem_cons_self
        · exact .inr ⟨Nat.le_refl _, by show m.nx < m.nx + 1; omega⟩) (by omega) (fun k bk hk _ => by
        obtain ⟨rfl, rfl⟩ := look_one hk; rfl)
      exact q
  · cases h
-- The document's See of no rows
theorem rs0_run (zs : List Int) : F_ Try.prog [] Try.f52 [] [] 99 [st zs, .val (.slice none 0 0)] noMem = some (.ret (st (expl 224 (expl 224 zs))) ⟨[], 99⟩ true) := by kernel_rfl
def e_rsee0 : Spec := fun _ args => match args with
  | [.agg cs, .val (.slice none 0 0)] => match stateOf cs with
    | some _ => some (.agg cs, none, [])
    | none => none
  | _ => none
theorem ok_rsee0 : SpecOk Try.prog 52 e_rsee0 := fun m args v mo bs h hb => by
  unfold e_rsee0 at h
  split at h
  · rename_i cs
    split at h <;> cases h
    rename_i zs hz
    obtain ⟨e, hl⟩ := stateOf_eq hz
    have g := rs0_run zs
    rw [expl_whole hl, expl_whole hl] at g
    rw [e]
    exact pure_fn (c := bodyOf Try.f52) env_nil mixedP (fun xs w => Try.call52 xs w) Try.func52 rfl g (by simp only [AV.grounds, st_ground zs hl]; rfl) (st_ground _ hl)
  · cases h
-- Seen
theorem seen_run (zs : List Int) : F_ Try.prog [] Try.f58 [] [] 99 [.ptr 0 1 0 0] ⟨[svR zs], 1⟩ = some (.ret (vi (zs.getD 224 0)) ⟨[], 99⟩ (conj [decide (224 < zs.length)])) := by kernel_rfl
def e_seen : Spec := fun m args => match args with
  | [.ptr l 1 0 0] => match look m.bl l with
    | some ⟨_, _, .col (.ints .i64 zs)⟩ => some (vi (zs.getD 224 0), none, [decide (224 < zs.length)])
    | _ => none
  | _ => none
theorem ok_seen : SpecOk Try.prog 58 e_seen := fun m args v mo bs h hb => by
  unfold e_seen at h
  split at h
  · rename_i l
    split at h <;> cases h
    rename_i wr op zs hl
    have g := seen_run zs
    rw [conj_tt hb] at g
    exact lift_p (ar := []) (br := []) hl rfl (fsound (c := bodyOf Try.f58) (fun xs w => Try.call58 xs w) Try.func58 rfl (F_ret env_nil mixedP rfl rfl g)) rfl rfl rfl rfl
  · cases h
end Go.Proofs.Ytbjealobiblabaa

namespace Go.Proofs.Ytbjealobiblabaa
open Go Go.RowKit
set_option maxRecDepth 100000
abbrev L_sc (P : Program) (f45 f47 : Func) (rr rs row : Spec) : List (FuncId × Spec) := [(44, e_aw3), (51, e_few), (45, inl P [] f45), (47, inl P [] f47), (46, e_ask), (28, e_add), (48, e_see), (16, rr), (52, rs), (53, e_half), (54, e_rhalf), (55, row), (40, e_same7), (49, e_rch), (56, e_rr), (50, e_died), (57, e_rd), (58, e_seen)]
theorem hE_sc {rr rs row : Spec} (h1 : SpecOk Try.prog 16 rr) (h2 : SpecOk Try.prog 52 rs) (hr : SpecOk Try.prog 55 row) : ESound Try.prog (envOf (L_sc Try.prog Try.f45 Try.f47 rr rs row)) :=
  env_cons ok_aw3 (env_cons ok_few (env_cons (inl_ok env_nil mixedP (fun xs w => Try.call45 xs w) Try.func45 rfl) (env_cons (inl_ok env_nil mixedP (fun xs w => Try.call47 xs w) Try.func47 rfl) (env_cons ok_ask (env_cons ok_add (env_cons ok_see (env_cons h1 (env_cons h2 (env_cons ok_half (env_cons ok_rhalf (env_cons hr (env_cons ok_same7 (env_cons ok_rch (env_cons ok_rr (env_cons ok_died (env_cons ok_rd (env_cons ok_seen env_nil)))))))))))))))))
abbrev scC (a : Nat) : List Cut := [(2,[0,1,2,7,8,9,14],[0,1,2],a),(7,[0,1,2,7,8,9,10,12,13],[0,1,2,3,4,5],a)]
abbrev scT (nn : Bool) (n : Nat) (c : Option Nat) (s a : Int) (t9 t10 t12 t13 t14 : AV) : List AV := [.sl nn 0 2 0 1 n c, vi s, vi a, .unk, .unk, .unk, .unk, .ptr 1 1 0 0, .ptr 2 1 0 0, t9, t10, .unk, t12, t13, t14] ++ List.replicate 172 .unk
abbrev sZ (zs : List Int) : Nat × Option ABlk := (1, some ⟨true, false, .col (.ints .i64 zs)⟩)
abbrev sW (ws : List Int) : Nat × Option ABlk := (2, some ⟨true, false, .col (.ints .i64 ws)⟩)
abbrev sM (es : List KV) : List (Nat × Option ABlk) := [(3, some ⟨true, false, .obj (.mpo 3 2 es)⟩), (4, some ⟨true, false, .cells [.mp 3]⟩)]
theorem c_few (zss : List (List Int)) (hss : List (List H5)) (nn : Bool) (n : Nat) (c : Option Nat) (s a : Int) : FO_ Try.prog (L_sc Try.prog Try.f45 Try.f47 e_rrN e_rsee0 e_rowI) Try.f9 (scC 19) [] 99 [0, 1] [.sl nn 0 2 0 1 n c, vi s, vi a] ⟨[aN zss hss], 1⟩ = some (.ret (vb true) ⟨[], 99⟩ (conj [decide (zss.length = n), decide (hss.length = n), !fewF zss hss n])) := by kernel_rfl
theorem c_in (zss : List (List Int)) (hss : List (List H5)) (nn : Bool) (n : Nat) (c : Option Nat) (s a : Int) : FO_ Try.prog (L_sc Try.prog Try.f45 Try.f47 e_rrN e_rsee0 e_rowI) Try.f9 (scC 19) [] 99 [0, 0] [.sl nn 0 2 0 1 n c, vi s, vi a] ⟨[aN zss hss], 1⟩ = some (.head (hd Try.f9 0) (scT nn n c s a (vi 0) .unk .unk .unk .unk) ⟨[aN zss hss, sZ (List.replicate 225 0), sW (List.replicate 224 0)], 19⟩ (conj [decide (zss.length = n), decide (hss.length = n), !!fewF zss hss n])) := by kernel_rfl
theorem c_a (zss : List (List Int)) (hss : List (List H5)) (nn : Bool) (n : Nat) (c : Option Nat) (s a : Int) (zs ws : List Int) (i : Int) : HO_ Try.prog (L_sc Try.prog Try.f45 Try.f47 e_rrN e_rsee0 e_rowI) Try.f9 (scC 19) [] 99 [1] (hd Try.f9 0) (scT nn n c s a (vi i) .unk .unk .unk .unk) ⟨[aN zss hss, sZ zs, sW ws], 3⟩ = some (.head (hd Try.f9 1) (scT nn n c s a (vi i) (vi 0) .unk .unk .unk) ⟨[aN zss hss, sZ zs, sW ws, (3, none), (4, none), (5, none)], 19⟩ (conj [decide (i < Int.ofNat n)])) := by kernel_rfl
theorem c_b0 (zss : List (List Int)) (hss : List (List H5)) (nn : Bool) (n : Nat) (c : Option Nat) (s a : Int) (zs ws : List Int) (j : Nat) (i k : Int) : HO_ Try.prog (L_sc Try.prog Try.f45 Try.f47 e_rrN e_rsee0 e_rowI) Try.f9 (scC 19) [] 99 [1, 1, 0] (hd Try.f9 1) (scT nn n c s a (vi i) (vi k) .unk .unk .unk) ⟨aF1 zss hss j 3 [sZ zs, sW ws], 4⟩ = some (.head (hd Try.f9 1) (scT nn n c s a (vi i) (vi (up1 k)) .unk .unk .unk) ⟨[aN zss hss, sZ (askF zs ((zss.getD j []).getD (iz k + 0) 0)), sW ws, (3, some ⟨false, false, .col (.ints .i64 (zss.getD j []))⟩), (4, none), (5, none)], 19⟩ (conj [decide (0 ≤ i), decide (i.toNat < n), Nat.beq (iz i) j, decide (k < Int.ofNat (zss.getD j []).length), decide (0 ≤ i), decide (i.toNat < n), Nat.beq (iz i) j, decide (0 ≤ k), decide (k.toNat < (zss.getD j []).length), decide (iz k + 0 < (zss.getD j []).length), decide (zs.length = 225), decide (0 ≤ i), decide (i.toNat < n), Nat.beq (iz i) j, decide (0 ≤ k), decide (k.toNat < (zss.getD j []).length), decide (iz k + 0 < (zss.getD j []).length), !!decide ((zss.getD j []).getD (iz k + 0) 0 < 0) || decide (0 ≤ i), !!decide ((zss.getD j []).getD (iz k + 0) 0 < 0) || decide (i.toNat < n), !!decide ((zss.getD j []).getD (iz k + 0) 0 < 0) || Nat.beq (iz i) j, !!decide ((zss.getD j []).getD (iz k + 0) 0 < 0) || decide (0 ≤ k), !!decide ((zss.getD j []).getD (iz k + 0) 0 < 0) || decide (k.toNat < (zss.getD j []).length), !!decide ((zss.getD j []).getD (iz k + 0) 0 < 0) || decide (iz k + 0 < (zss.getD j []).length), (bif decide ((zss.getD j []).getD (iz k + 0) 0 < 0) then true else decide (31 < (zss.getD j []).getD (iz k + 0) 0)), !(bif survive_is_0 ((zss.getD j []).getD (iz k + 0) 0) 0 then (0 : Int) else 21) != 21])) := by kernel_rfl
theorem c_b1 (zss : List (List Int)) (hss : List (List H5)) (nn : Bool) (n : Nat) (c : Option Nat) (s a : Int) (zs ws : List Int) (j : Nat) (i k : Int) : HO_ Try.prog (L_sc Try.prog Try.f45 Try.f47 e_rrN e_rsee0 e_rowI) Try.f9 (scC 19) [] 99 [1, 0, 0] (hd Try.f9 1) (scT nn n c s a (vi i) (vi k) .unk .unk .unk) ⟨aF1 zss hss j 3 [sZ zs, sW ws], 4⟩ = some (.head (hd Try.f9 1) (scT nn n c s a (vi i) (vi (up1 k)) .unk .unk .unk) ⟨[aN zss hss, sZ (askF zs ((zss.getD j []).getD (iz k + 0) 0)), sW (ws.set (svA ((zss.getD j []).getD (iz k + 0) 0)) (IntKind.i64.wrap (ws.getD (svA ((zss.getD j []).getD (iz k + 0) 0)) 0 + 1))), (3, some ⟨false, false, .col (.ints .i64 (zss.getD j []))⟩), (4, none), (5, none)], 19⟩ (conj [decide (0 ≤ i), decide (i.toNat < n), Nat.beq (iz i) j, decide (k < Int.ofNat (zss.getD j []).length), decide (0 ≤ i), decide (i.toNat < n), Nat.beq (iz i) j, decide (0 ≤ k), decide (k.toNat < (zss.getD j []).length), decide (iz k + 0 < (zss.getD j []).length), decide (zs.length = 225), decide (0 ≤ i), decide (i.toNat < n), Nat.beq (iz i) j, decide (0 ≤ k), decide (k.toNat < (zss.getD j []).length), decide (iz k + 0 < (zss.getD j []).length), !!decide ((zss.getD j []).getD (iz k + 0) 0 < 0) || decide (0 ≤ i), !!decide ((zss.getD j []).getD (iz k + 0) 0 < 0) || decide (i.toNat < n), !!decide ((zss.getD j []).getD (iz k + 0) 0 < 0) || Nat.beq (iz i) j, !!decide ((zss.getD j []).getD (iz k + 0) 0 < 0) || decide (0 ≤ k), !!decide ((zss.getD j []).getD (iz k + 0) 0 < 0) || decide (k.toNat < (zss.getD j []).length), !!decide ((zss.getD j []).getD (iz k + 0) 0 < 0) || decide (iz k + 0 < (zss.getD j []).length), !(bif decide ((zss.getD j []).getD (iz k + 0) 0 < 0) then true else decide (31 < (zss.getD j []).getD (iz k + 0) 0)), decide (0 ≤ i), decide (i.toNat < n), Nat.beq (iz i) j, decide (0 ≤ k), decide (k.toNat < (zss.getD j []).length), decide (iz k + 0 < (zss.getD j []).length), decide (0 ≤ (zss.getD j []).getD (iz k + 0) 0), decide (((zss.getD j []).getD (iz k + 0) 0).toNat < 32), decide (addN (addN 0 (mulN ((zss.getD j []).getD (iz k + 0) 0).toNat 7)) 0 + 0 < ws.length), decide (0 ≤ (zss.getD j []).getD (iz k + 0) 0), decide (((zss.getD j []).getD (iz k + 0) 0).toNat < 32), decide (addN (addN 0 (mulN ((zss.getD j []).getD (iz k + 0) 0).toNat 7)) 0 + 0 < ws.length), !(bif survive_is_0 ((zss.getD j []).getD (iz k + 0) 0) 0 then (0 : Int) else 21) != 0])) := by kernel_rfl
theorem c_be (zss : List (List Int)) (hss : List (List H5)) (nn : Bool) (n : Nat) (c : Option Nat) (s a : Int) (zs ws : List Int) (j : Nat) (i k : Int) : HO_ Try.prog (L_sc Try.prog Try.f45 Try.f47 e_rrN e_rsee0 e_rowI) Try.f9 (scC 19) [] 99 [0] (hd Try.f9 1) (scT nn n c s a (vi i) (vi k) .unk .unk .unk) ⟨aF1 zss hss j 3 [sZ zs, sW ws], 4⟩ = some (.head (hd Try.f9 2) (scT nn n c s a (vi i) (vi k) (.ptr 5 1 0 0) (vi 0) .unk) ⟨[aN zss hss, sZ zs, sW ws, (3, some ⟨false, false, .col (.ints .i64 (zss.getD j []))⟩), (4, some ⟨true, false, .obj (.mpo 3 2 [])⟩), (5, some ⟨true, false, .cells [.mp 4]⟩)], 19⟩ (conj [decide (0 ≤ i), decide (i.toNat < n), Nat.beq (iz i) j, !decide (k < Int.ofNat (zss.getD j []).length)])) := by kernel_rfl
theorem c_c (zss : List (List Int)) (hss : List (List H5)) (nn : Bool) (n : Nat) (c : Option Nat) (s a : Int) (zs ws : List Int) (es : List KV) (j : Nat) (i k : Int) : HO_ Try.prog (L_sc Try.prog Try.f45 Try.f47 e_rrN e_rsee0 e_rowI) Try.f9 (scC 19) [] 99 [1] (hd Try.f9 2) (scT nn n c s a (vi i) .unk (.ptr 4 1 0 0) (vi k) .unk) ⟨aF2 zss hss j 5 ([sZ zs, sW ws] ++ sM es), 6⟩ = some (.head (hd Try.f9 2) (scT nn n c s a (vi i) .unk (.ptr 4 1 0 0) (vi (up1 k)) .unk) ⟨[aN zss hss, sZ zs, sW ws] ++ sM (addH es (((hss.getD j []).map fun h => h.1).getD (iz k) 0) (((hss.getD j []).map fun h => h.2.1).getD (iz k) 0) (((hss.getD j []).map fun h => h.2.2.1).getD (iz k) 0) (((hss.getD j []).map fun h => h.2.2.2.1).getD (iz k) 0)) ++ [(5, some ⟨false, false, h5C (hss.getD j [])⟩)], 19⟩ (conj [decide (0 ≤ i), decide (i.toNat < n), Nat.beq (iz i) j, decide (k < Int.ofNat (hss.getD j []).length), decide (0 ≤ i), decide (i.toNat < n), Nat.beq (iz i) j, decide (0 ≤ k), decide (k.toNat < (hss.getD j []).length), decide (iz k < ((hss.getD j []).map fun h => h.1).length), decide (iz k < ((hss.getD j []).map fun h => h.2.1).length), decide (iz k < ((hss.getD j []).map fun h => h.2.2.1).length), decide (iz k < ((hss.getD j []).map fun h => h.2.2.2.1).length), decide (iz k < ((hss.getD j []).map fun h => h.2.2.2.2).length), keysN 3 es])) := by kernel_rfl
theorem c_ce (zss : List (List Int)) (hss : List (List H5)) (nn : Bool) (n : Nat) (c : Option Nat) (s a : Int) (zs ws : List Int) (es : List KV) (l : List KV) (j : Nat) (i k : Int) : HO_ Try.prog (L_sc Try.prog Try.f45 Try.f47 (e_rrY l) (e_rsee l) e_rowI) Try.f9 (scC 19) [] 99 [0] (hd Try.f9 2) (scT nn n c s a (vi i) .unk (.ptr 4 1 0 0) (vi k) .unk) ⟨aF2 zss hss j 5 ([sZ zs, sW ws] ++ sM es), 6⟩ = some (.head (hd Try.f9 0) (scT nn n c s a (vi (up1 i)) .unk .unk .unk .unk) ⟨[aN zss hss, sZ (seeS zs es), sW (expl 224 (rseeF (expl 224 ws) l))], 19⟩ (conj [decide (0 ≤ i), decide (i.toNat < n), Nat.beq (iz i) j, !decide (k < Int.ofNat (hss.getD j []).length), decide (zs.length = 225), decide (KD es), es.length.ble 4096, decide (ws.length = 224), decide (0 ≤ i), decide (i.toNat < n), Nat.beq (iz i) j, Nat.blt 0 l.length, decide (RF (hdI ((hss.getD j []).map fun h => h.1) ((hss.getD j []).map fun h => h.2.1) ((hss.getD j []).map fun h => h.2.2.1) ((hss.getD j []).map fun h => h.2.2.2.1) 0 (hss.getD j []).length) = l), (hss.getD j []).length.ble 4096, (hss.getD j []).length.ble ((hss.getD j []).map fun h => h.1).length, (hss.getD j []).length.ble ((hss.getD j []).map fun h => h.2.1).length, (hss.getD j []).length.ble ((hss.getD j []).map fun h => h.2.2.1).length, (hss.getD j []).length.ble ((hss.getD j []).map fun h => h.2.2.2.1).length, (hss.getD j []).length.ble ((hss.getD j []).map fun h => h.2.2.2.2).length, l.length.ble 4096, decide (l.length = l.length), decide (l.map kA = l.map kA), decide (l.map kB = l.map kB), decide (l.map kC = l.map kC), decide (l.map kD = l.map kD), decide (l.map kE = l.map kE), rowsOk l, decide (ws.length = 224)])) := by kernel_rfl
theorem c_ce0 (zss : List (List Int)) (hss : List (List H5)) (nn : Bool) (n : Nat) (c : Option Nat) (s a : Int) (zs ws : List Int) (es : List KV) (j : Nat) (i k : Int) : HO_ Try.prog (L_sc Try.prog Try.f45 Try.f47 e_rrN e_rsee0 e_rowI) Try.f9 (scC 19) [] 99 [0] (hd Try.f9 2) (scT nn n c s a (vi i) .unk (.ptr 4 1 0 0) (vi k) .unk) ⟨aF2 zss hss j 5 ([sZ zs, sW ws] ++ sM es), 6⟩ = some (.head (hd Try.f9 0) (scT nn n c s a (vi (up1 i)) .unk .unk .unk .unk) ⟨[aN zss hss, sZ (seeS zs es), sW (expl 224 ws)], 19⟩ (conj [decide (0 ≤ i), decide (i.toNat < n), Nat.beq (iz i) j, !decide (k < Int.ofNat (hss.getD j []).length), decide (zs.length = 225), decide (KD es), es.length.ble 4096, decide (ws.length = 224), decide (0 ≤ i), decide (i.toNat < n), Nat.beq (iz i) j, decide (RF (hdI ((hss.getD j []).map fun h => h.1) ((hss.getD j []).map fun h => h.2.1) ((hss.getD j []).map fun h => h.2.2.1) ((hss.getD j []).map fun h => h.2.2.2.1) 0 (hss.getD j []).length) = []), (hss.getD j []).length.ble 4096, (hss.getD j []).length.ble ((hss.getD j []).map fun h => h.1).length, (hss.getD j []).length.ble ((hss.getD j []).map fun h => h.2.1).length, (hss.getD j []).length.ble ((hss.getD j []).map fun h => h.2.2.1).length, (hss.getD j []).length.ble ((hss.getD j []).map fun h => h.2.2.2.1).length, (hss.getD j []).length.ble ((hss.getD j []).map fun h => h.2.2.2.2).length, decide (ws.length = 224)])) := by kernel_rfl
theorem c_ae (zss : List (List Int)) (hss : List (List H5)) (nn : Bool) (n : Nat) (c : Option Nat) (s a : Int) (zs ws : List Int) (i : Int) : HO_ Try.prog (L_sc Try.prog Try.f45 Try.f47 e_rrN e_rsee0 e_rowI) Try.f9 (scC 19) [] 99 [0] (hd Try.f9 0) (scT nn n c s a (vi i) .unk .unk .unk .unk) ⟨[aN zss hss, sZ zs, sW ws], 3⟩ = some (.head (hd Try.f9 3) (scT nn n c s a (vi i) .unk .unk .unk (vi 0)) ⟨[aN zss hss, sZ zs, sW ws], 19⟩ (conj [!decide (i < Int.ofNat n)])) := by kernel_rfl
theorem c_d (zss : List (List Int)) (hss : List (List H5)) (nn : Bool) (n : Nat) (c : Option Nat) (s a : Int) (zs ws : List Int) (k : Int) : HO_ Try.prog ((1000004, e_hint) :: L_sc Try.prog Try.f45 Try.f47 e_rrN e_rsee0 e_rowI) Try.f9 (scC 19) [] 99 [1, 0] (hd Try.f9 3) (scT nn n c s a .unk .unk .unk .unk (vi k)) ⟨[aN zss hss, sZ zs, sW ws], 3⟩ = some (.head (hd Try.f9 3) (scT nn n c s a .unk .unk .unk .unk (vi (up1 k))) ⟨[aN zss hss, sZ zs, sW ws], 19⟩ (conj [decide (k < 32), decide (zs.length = 225), decide (ws.length = 224), !halfF zs k != rhalfF (expl 224 ws) k, decide (zs.length = 225), decide (0 ≤ k), decide (k < 32), false || decide (0 ≤ k), false || decide (k.toNat < 32), false || decide (rowL zs k = List.take 7 (ws.drop (rowI k))), false || (rowI k + 7).ble ws.length])) := by kernel_rfl
theorem c_de (zss : List (List Int)) (hss : List (List H5)) (nn : Bool) (n : Nat) (c : Option Nat) (s a : Int) (zs ws : List Int) (k : Int) : HO_ Try.prog ((1000004, e_hint) :: L_sc Try.prog Try.f45 Try.f47 e_rrN e_rsee0 e_rowO) Try.f9 (scC 19) [] 99 [0, 0] (hd Try.f9 3) (scT nn n c s a .unk .unk .unk .unk (vi k)) ⟨[aN zss hss, sZ zs, sW ws], 3⟩ = some (.ret (vb true) ⟨[], 99⟩ (conj [!decide (k < 32), (!bif decide (s < 0) then true else decide (31 < s)) || !survive_is_0 s 0, (!bif decide (s < 0) then true else decide (31 < s)) || true, !(bif bif decide (s < 0) then true else decide (31 < s) then false else false), decide (zs.length = 225), decide (ws.length = 224), rchF zs s a == rchF (expl 224 ws) s a, false || decide (zs.length = 225), false || decide (ws.length = 224), false || diedF zs s a == rdF (expl 224 ws) s a, false || decide (zs.length = 225), false || decide (ws.length = 224), false || halfF zs s == rhalfF (expl 224 ws) s, false || decide (224 < zs.length), false || zs.getD 224 0 == Int.ofNat n])) := by kernel_rfl
end Go.Proofs.Ytbjealobiblabaa
