/-
  Values of nested structs and arrays that came in: their leaves, one by one.
-/
import Derived.Test.YtnkpegdmbocgaaaDoorLaw
namespace Go.Proofs.YtnkpegdmbocgaaaDoor
open Go Go.ChangeShapes Go.WideShapes Go.ChangeAt Go.RowKit Go.Deep
theorem list_cons {α : Type} {l : List α} {n : Nat} (h : l.length = n + 1) : ∃ a r, l = a :: r ∧ r.length = n := by
  cases l with
  | nil => cases h
  | cons a r => exact ⟨a, r, rfl, by simpa using h⟩
theorem list_nil {α : Type} {l : List α} (h : l.length = 0) : l = [] := List.eq_nil_of_length_eq_zero h
def repL {α : Type} : Nat → List α → List α
  | 0, _ => []
  | n + 1, l => l ++ repL n l
def leavesF (P : Program) (rec : TypeId → Option (List TypeId)) : List Field → Nat → Option (List TypeId)
  | [], _ => some []
  | f :: fs, off => match rec f.type with
    | some l => match Nat.beq f.offset off && Nat.beq l.length (P.cellsOf f.type) with
      | true => match leavesF P rec fs (off + l.length) with
        | some r => some (l ++ r)
        | none => none
      | false => none
    | none => none
def leavesT (P : Program) : Nat → TypeId → Option (List TypeId)
  | 0, _ => none
  | d + 1, t => match P.underlying t with
    | some (.struct fs) => leavesF P (leavesT P d) fs.toList 0
    | some (.array n e) => match leavesT P d e with
      | some l => match Nat.beq l.length (P.cellsOf e) with
        | true => some (repL n l)
        | false => none
      | none => none
    | some _ => some [t]
    | none => none
section
variable {H : Type} {enc : TypeId × Value → H} {P : Program} {w : World} {base : Nat} {spare : Nat → Bool} {held : Bool}
abbrev LeafOk (enc : TypeId × Value → H) (P : Program) (w : World) (base : Nat) (spare : Nat → Bool) (held : Bool) (ls : List TypeId) (cs : List Value) : Prop :=
  ∀ (j : Nat) (τ : TypeId) (u : Value), ls[j]? = some τ → cs[j]? = some u → ∃ m y, DataW.trod enc P w base spare held m τ [u] = some y
theorem repL_get {α : Type} {l : List α} : ∀ (n j : Nat) (x : α), (repL n l)[j]? = some x → ∃ i k, i < n ∧ j = i * l.length + k ∧ l[k]? = some x
  | 0, j, x, h => by simp [repL] at h
  | n + 1, j, x, h => by
    simp only [repL] at h
    by_cases hj : j < l.length
    · rw [List.getElem?_append_left hj] at h
      exact ⟨0, j, by omega, by omega, h⟩
    · rw [List.getElem?_append_right (by omega)] at h
      obtain ⟨i, k, h1, h2, h3⟩ := repL_get n _ x h
      refine ⟨i + 1, k, by omega, ?_, h3⟩
      rw [Nat.add_mul]
      omega
theorem leavesF_get {rec : TypeId → Option (List TypeId)} : ∀ (fs : List Field) (off : Nat) (ls : List TypeId) (j : Nat) (τ : TypeId), leavesF P rec fs off = some ls → ls[j]? = some τ →
    ∃ (i : Nat) (f : Field) (l : List TypeId) (k : Nat), fs[i]? = some f ∧ rec f.type = some l ∧ l[k]? = some τ ∧ off + j = f.offset + k ∧ l.length = P.cellsOf f.type
  | [], off, ls, j, τ, h, hj => by cases h; simp at hj
  | f :: fs, off, ls, j, τ, h, hj => by
    simp only [leavesF] at h
    cases hr : rec f.type with
    | none => rw [hr] at h; cases h
    | some l =>
      rw [hr] at h
      dsimp only at h
      split at h
      · rename_i hc
        simp only [Bool.and_eq_true] at hc
        have h1 := Nat.eq_of_beq_eq_true hc.1
        have h2 := Nat.eq_of_beq_eq_true hc.2
        cases hr2 : leavesF P rec fs (off + l.length) with
        | none => rw [hr2] at h; cases h
        | some r =>
          rw [hr2] at h
          cases h
          by_cases hjl : j < l.length
          · rw [List.getElem?_append_left hjl] at hj
            exact ⟨0, f, l, j, rfl, hr, hj, by omega, h2⟩
          · rw [List.getElem?_append_right (by omega)] at hj
            obtain ⟨i, f', l', k, g1, g2, g3, g4, g5⟩ := leavesF_get fs _ r _ τ hr2 hj
            exact ⟨i + 1, f', l', k, by simpa using g1, g2, g3, by omega, g5⟩
      · cases h
theorem take_at {α : Type} {l : List α} {o c k : Nat} {u : α} (hk : k < c) (h : l[o + k]? = some u) : ((l.drop o).take c)[k]? = some u := by
  rw [List.getElem?_take_of_lt hk, List.getElem?_drop]
  exact h
theorem leaf_ok : ∀ (d : Nat) (t : TypeId) (ls : List TypeId) (n : Nat) (cs : List Value) (y : DataW H × List MemPlace), leavesT P d t = some ls → ls.length = P.cellsOf t → cs.length = P.cellsOf t → DataW.trod enc P w base spare held n t cs = some y → LeafOk enc P w base spare held ls cs
  | 0, t, ls, n, cs, y, h, _, _, _ => by cases h
  | d + 1, t, ls, n, cs, y, h, hlen, hcl, ht => by
    intro j τ u hj hu
    simp only [leavesT] at h
    have leaf : ls = [t] → ∃ m y, DataW.trod enc P w base spare held m τ [u] = some y := fun e => by
      subst e
      cases j with
      | succ j => simp at hj
      | zero =>
        simp at hj
        subst hj
        have : cs = [u] := by
          match cs, hcl.trans hlen.symm, hu with
          | [x], _, hu => simpa using hu
        subst this
        exact ⟨n, y, ht⟩
    cases hu' : P.underlying t with
    | none => rw [hu'] at h; cases h
    | some ty =>
      rw [hu'] at h
      cases ty with
      | struct fs =>
        dsimp only at h
        obtain ⟨xs, m, _, _, _, hl2, hg⟩ := DataW.trod_struct hu' ht
        obtain ⟨i, f, l, k, g1, g2, g3, g4, g5⟩ := leavesF_get fs.toList 0 ls j τ h hj
        have hf : fs[i]? = some f := by simpa using g1
        have h1 := hg i f hf
        have hil : i < fs.size := (Array.getElem?_eq_some_iff.1 hf).1
        have hx : xs[i]? = some (xs[i]'(by omega)) := List.getElem?_eq_getElem (by omega)
        have hk : k < P.cellsOf f.type := by rw [← g5]; exact (List.getElem?_eq_some_iff.1 g3).1
        have hut := take_at (c := P.cellsOf f.type) hk (show cs[f.offset + k]? = some u by rw [← g4, Nat.zero_add]; exact hu)
        have hfit : f.offset + P.cellsOf f.type ≤ cs.length := by
          have hend : ∀ (fs : List Field) (off : Nat) (ls : List TypeId), leavesF P (leavesT P d) fs off = some ls → ∀ f ∈ fs, f.offset + P.cellsOf f.type ≤ off + ls.length := by
            intro fs
            induction fs with
            | nil => intro off ls h f hf; cases hf
            | cons f0 fs ih =>
              intro off ls h f hf
              simp only [leavesF] at h
              cases hr : leavesT P d f0.type with
              | none => rw [hr] at h; cases h
              | some l0 =>
                rw [hr] at h
                dsimp only at h
                split at h
                · rename_i hc
                  simp only [Bool.and_eq_true] at hc
                  have h1 := Nat.eq_of_beq_eq_true hc.1
                  have h2 := Nat.eq_of_beq_eq_true hc.2
                  cases hr2 : leavesF P (leavesT P d) fs (off + l0.length) with
                  | none => rw [hr2] at h; cases h
                  | some r =>
                    rw [hr2] at h
                    cases h
                    rw [List.length_append]
                    rcases List.mem_cons.1 hf with rfl | hf
                    · omega
                    · have := ih _ _ hr2 f hf
                      omega
                · cases h
          have := hend fs.toList 0 ls h f (List.mem_of_getElem? g1)
          omega
        exact leaf_ok d f.type l m _ _ g2 g5 (by rw [List.length_take, List.length_drop]; omega) (h1.trans hx) k τ u g3 hut
      | array n' e =>
        dsimp only at h
        cases hle : leavesT P d e with
        | none => rw [hle] at h; cases h
        | some l =>
          rw [hle] at h
          dsimp only at h
          split at h
          · rename_i hc
            have hc := Nat.eq_of_beq_eq_true hc
            cases h
            obtain ⟨xs, m, _, _, _, hl2, hg⟩ := DataW.trod_array hu' ht
            obtain ⟨i, k, g1, g2, g3⟩ := repL_get _ _ _ hj
            have h1 := hg i g1
            have hx : xs[i]? = some (xs[i]'(by omega)) := List.getElem?_eq_getElem (by omega)
            have hk : k < P.cellsOf e := by rw [← hc]; exact (List.getElem?_eq_some_iff.1 g3).1
            have hut := take_at (c := P.cellsOf e) hk (show cs[i * P.cellsOf e + k]? = some u by rw [← hc, ← g2]; exact hu)
            have hlr : ∀ n : Nat, (repL n l).length = n * l.length := fun n => by
              induction n with
              | zero => simp [repL]
              | succ n ih => simp only [repL, List.length_append, ih, Nat.add_mul]; omega
            have hfit : i * P.cellsOf e + P.cellsOf e ≤ cs.length := by
              rw [hcl, ← hlen, hlr, ← hc, ← Nat.succ_mul]
              exact Nat.mul_le_mul_right _ g1
            exact leaf_ok d e l m _ _ hle hc (by rw [List.length_take, List.length_drop]; omega) (h1.trans hx) k τ u g3 hut
          · cases h
      | _ => exact leaf (by cases h; rfl)
/-- A value of nested structs and arrays came in. -/
theorem open_flat {r : Reach} {b0 : Nat} {t : TypeId} {v : Value} {x : DataW H} {p : List MemPlace} {ls : List TypeId} {ty : TypeDesc} (hu : P.underlying t = some ty) (hag : (match ty with | .struct _ => true | .array _ _ => true | _ => false) = true) (hl : leavesT P 9 t = some ls) (hC : P.cellsOf t = ls.length)
    (hv : Value.okWide P w r b0 t v) (h : DataW.Trod enc P w base spare held t v x p) :
    ∃ l : List Value, v = .agg l.toArray ∧ l.length = ls.length ∧ LeafOk enc P w base spare held ls l := by
  have hsh : ∃ cs : Array Value, v = .agg cs ∧ cs.size = P.cellsOf t := by
    cases ty with
    | struct fs => exact okWide_struct hu hv
    | array n e => exact okWide_array hu hv
    | _ => cases hag
  obtain ⟨⟨l⟩, rfl, hsz⟩ := hsh
  have hsz : l.length = P.cellsOf t := hsz
  obtain ⟨fuel, hf⟩ := h
  have e2 : (Value.agg l.toArray).cells.toList = l := by simp [Value.cells]
  rw [e2] at hf
  exact ⟨l, rfl, by rw [hsz, hC], leaf_ok 9 t ls fuel l _ hl hC.symm hsz hf⟩
end
end Go.Proofs.YtnkpegdmbocgaaaDoor
