/-
  What the program's functions hand back.
-/
import Derived.Test.YtbjealobiblabaaDoorRpLd
namespace Go.Proofs.YtbjealobiblabaaDoor
open Go Go.ChangeShapes Go.WideShapes Go.ChangeAt Go.RowKit Go.Deep
theorem list_cons {α : Type} {l : List α} {n : Nat} (h : l.length = n + 1) : ∃ a r, l = a :: r ∧ r.length = n := by
  cases l with
  | nil => cases h
  | cons a r => exact ⟨a, r, rfl, by simpa using h⟩
theorem list_nil {α : Type} {l : List α} (h : l.length = 0) : l = [] := List.eq_nil_of_length_eq_zero h
def repL {α : Type} : Nat → List α → List α
  | 0, _ => []
  | n + 1, l => l ++ repL n l
def leavesF (P : Program) (rec : TypeId → Option (List TypeId)) : List Field → Nat → Option (List TypeId)
  | [], _ => some []
  | f :: fs, off => match rec f.type with
    | some l => match Nat.beq f.offset off && Nat.beq l.length (P.cellsOf f.type) with
      | true => match leavesF P rec fs (off + l.length) with
        | some r => some (l ++ r)
        | none => none
      | false => none
    | none => none
def leavesT (P : Program) : Nat → TypeId → Option (List TypeId)
  | 0, _ => none
  | d + 1, t => match P.underlying t with
    | some (.struct fs) => leavesF P (leavesT P d) fs.toList 0
    | some (.array n e) => match leavesT P d e with
      | some l => match Nat.beq l.length (P.cellsOf e) with
        | true => some (repL n l)
        | false => none
      | none => none
    | some _ => some [t]
    | none => none
section
variable {H : Type} {enc : TypeId × Value → H} {P : Program} {w : World} {base : Nat} {spare : Nat → Bool} {held : Bool}
abbrev LeafOk (enc : TypeId × Value → H) (P : Program) (w : World) (base : Nat) (spare : Nat → Bool) (held : Bool) (ls : List TypeId) (cs : List Value) : Prop :=
  ∀ (j : Nat) (τ : TypeId) (u : Value), ls[j]? = some τ → cs[j]? = some u → ∃ m y, DataW.trod enc P w base spare held m τ [u] = some y
theorem repL_get {α : Type} {l : List α} : ∀ (n j : Nat) (x : α), (repL n l)[j]? = some x → ∃ i k, i < n ∧ j = i * l.length + k ∧ l[k]? = some x
  | 0, j, x, h => by simp [repL] at h
  | n + 1, j, x, h => by
    simp only [repL] at h
    by_cases hj : j < l.length
    · rw [List.getElem?_append_left hj] at h
      exact ⟨0, j, by omega, by omega, h⟩
    · rw [List.getElem?_append_right (by omega)] at h
      obtain ⟨i, k, h1, h2, h3⟩ := repL_get n _ x h
      refine ⟨i + 1, k, by omega, ?_, h3⟩
      rw [Nat.add_mul]
      omega
theorem leavesF_get {rec : TypeId → Option (List TypeId)} : ∀ (fs : List Field) (off : Nat) (ls : List TypeId) (j : Nat) (τ : TypeId), leavesF P rec fs off = some ls → ls[j]? = some τ →
    ∃ (i : Nat) (f : Field) (l : List TypeId) (k : Nat), fs[i]? = some f ∧ rec f.type = some l ∧ l[k]? = some τ ∧ off + j = f.offset + k ∧ l.length = P.cellsOf f.type
  | [], off, ls, j, τ, h, hj => by cases h; simp at hj
  | f :: fs, off, ls, j, τ, h, hj => by
    simp only [leavesF] at h
    cases hr : rec f.type with
    | none => rw [hr] at h; cases h
    | some l =>
      rw [hr] at h
      dsimp only at h
      split at h
      · rename_i hc
        simp only [Bool.and_eq_true] at hc
        have h1 := Nat.eq_of_beq_eq_true hc.1
        have h2 := Nat.eq_of_beq_eq_true hc.2
        cases hr2 : leavesF P rec fs (off + l.length) with
        | none => rw [hr2] at h; cases h
        | some r =>
          rw [hr2] at h
          cases h
          by_cases hjl : j < l.length
          · rw [List.getElem?_append_left hjl] at hj
            exact ⟨0, f, l, j, rfl, hr, hj, by omega, h2⟩
          · rw [List.getElem?_append_right (by omega)] at hj
            obtain ⟨i, f', l', k, g1, g2, g3, g4, g5⟩ := leavesF_get fs _ r _ τ hr2 hj
            exact ⟨i + 1, f', l', k, by simpa using g1, g2, g3, by omega, g5⟩
      · cases h
theorem take_at {α : Type} {l : List α} {o c k : Nat} {u : α} (hk : k < c) (h : l[o + k]? = some u) : ((l.drop o).take c)[k]? = some u := by
  rw [List.getElem?_take_of_lt hk, List.getElem?_drop]
  exact h
theorem leaf_ok : ∀ (d : Nat) (t : TypeId) (ls : List TypeId) (n : Nat) (cs : List Value) (y : DataW H × List MemPlace), leavesT P d t = some ls → ls.length = P.cellsOf t → cs.length = P.cellsOf t → DataW.trod enc P w base spare held n t cs = some y → LeafOk enc P w base spare held ls cs
  | 0, t, ls, n, cs, y, h, _, _, _ => by cases h
  | d + 1, t, ls, n, cs, y, h, hlen, hcl, ht => by
    intro j τ u hj hu
    simp only [leavesT] at h
    have leaf : ls = [t] → ∃ m y, DataW.trod enc P w base spare held m τ [u] = some y := fun e => by
      subst e
      cases j with
      | succ j => simp at hj
      | zero =>
        simp at hj
        subst hj
        have : cs = [u] := by
          match cs, hcl.trans hlen.symm, hu with
          | [x], _, hu => simpa using hu
        subst this
        exact ⟨n, y, ht⟩
    cases hu' : P.underlying t with
    | none => rw [hu'] at h; cases h
    | some ty =>
      rw [hu'] at h
      cases ty with
      | struct fs =>
        dsimp only at h
        obtain ⟨xs, m, _, _, _, hl2, hg⟩ := DataW.trod_struct hu' ht
        obtain ⟨i, f, l, k, g1, g2, g3, g4, g5⟩ := leavesF_get fs.toList 0 ls j τ h hj
        have hf : fs[i]? = some f := by simpa using g1
        have h1 := hg i f hf
        have hil : i < fs.size := (Array.getElem?_eq_some_iff.1 hf).1
        have hx : xs[i]? = some (xs[i]'(by omega)) := List.getElem?_eq_getElem (by omega)
        have hk : k < P.cellsOf f.type := by rw [← g5]; exact (List.getElem?_eq_some_iff.1 g3).1
        have hut := take_at (c := P.cellsOf f.type) hk (show cs[f.offset + k]? = some u by rw [← g4, Nat.zero_add]; exact hu)
        have hfit : f.offset + P.cellsOf f.type ≤ cs.length := by
          have hend : ∀ (fs : List Field) (off : Nat) (ls : List TypeId), leavesF P (leavesT P d) fs off = some ls → ∀ f ∈ fs, f.offset + P.cellsOf f.type ≤ off + ls.length := by
            intro fs
            induction fs with
            | nil => intro off ls h f hf; cases hf
            | cons f0 fs ih =>
              intro off ls h f hf
              simp only [leavesF] at h
              cases hr : leavesT P d f0.type with
              | none => rw [hr] at h; cases h
              | some l0 =>
                rw [hr] at h
                dsimp only at h
                split at h
                · rename_i hc
                  simp only [Bool.and_eq_true] at hc
                  have h1 := Nat.eq_of_beq_eq_true hc.1
                  have h2 := Nat.eq_of_beq_eq_true hc.2
                  cases hr2 : leavesF P (leavesT P d) fs (off + l0.length) with
                  | none => rw [hr2] at h; cases h
                  | some r =>
                    rw [hr2] at h
                    cases h
                    rw [List.length_append]
                    rcases List.mem_cons.1 hf with rfl | hf
                    · omega
                    · have := ih _ _ hr2 f hf
                      omega
                · cases h
          have := hend fs.toList 0 ls h f (List.mem_of_getElem? g1)
          omega
        exact leaf_ok d f.type l m _ _ g2 g5 (by rw [List.length_take, List.length_drop]; omega) (h1.trans hx) k τ u g3 hut
      | array n' e =>
        dsimp only at h
        cases hle : leavesT P d e with
        | none => rw [hle] at h; cases h
        | some l =>
          rw [hle] at h
          dsimp only at h
          split at h
          · rename_i hc
            have hc := Nat.eq_of_beq_eq_true hc
            cases h
            obtain ⟨xs, m, _, _, _, hl2, hg⟩ := DataW.trod_array hu' ht
            obtain ⟨i, k, g1, g2, g3⟩ := repL_get _ _ _ hj
            have h1 := hg i g1
            have hx : xs[i]? = some (xs[i]'(by omega)) := List.getElem?_eq_getElem (by omega)
            have hk : k < P.cellsOf e := by rw [← hc]; exact (List.getElem?_eq_some_iff.1 g3).1
            have hut := take_at (c := P.cellsOf e) hk (show cs[i * P.cellsOf e + k]? = some u by rw [← hc, ← g2]; exact hu)
            have hlr : ∀ n : Nat, (repL n l).length = n * l.length := fun n => by
              induction n with
              | zero => simp [repL]
              | succ n ih => simp only [repL, List.length_append, ih, Nat.add_mul]; omega
            have hfit : i * P.cellsOf e + P.cellsOf e ≤ cs.length := by
              rw [hcl, ← hlen, hlr, ← hc, ← Nat.succ_mul]
              exact Nat.mul_le_mul_right _ g1
            exact leaf_ok d e l m _ _ hle hc (by rw [List.length_take, List.length_drop]; omega) (h1.trans hx) k τ u g3 hut
          · cases h
      | _ => exact leaf (by cases h; rfl)
/-- A value of nested structs and arrays came in. -/
theorem open_flat {r : Reach} {b0 : Nat} {t : TypeId} {v : Value} {x : DataW H} {p : List MemPlace} {ls : List TypeId} {ty : TypeDesc} (hu : P.underlying t = some ty) (hag : (match ty with | .struct _ => true | .array _ _ => true | _ => false) = true) (hl : leavesT P 9 t = some ls) (hC : P.cellsOf t = ls.length)
    (hv : Value.okWide P w r b0 t v) (h : DataW.Trod enc P w base spare held t v x p) :
    ∃ l : List Value, v = .agg l.toArray ∧ l.length = ls.length ∧ LeafOk enc P w base spare held ls l := by
  have hsh : ∃ cs : Array Value, v = .agg cs ∧ cs.size = P.cellsOf t := by
    cases ty with
    | struct fs => exact okWide_struct hu hv
    | array n e => exact okWide_array hu hv
    | _ => cases hag
  obtain ⟨⟨l⟩, rfl, hsz⟩ := hsh
  have hsz : l.length = P.cellsOf t := hsz
  obtain ⟨fuel, hf⟩ := h
  have e2 : (Value.agg l.toArray).cells.toList = l := by simp [Value.cells]
  rw [e2] at hf
  exact ⟨l, rfl, by rw [hsz, hC], leaf_ok 9 t ls fuel l _ hl hC.symm hsz hf⟩
end
def leavesAre (P : Program) : List TypeId → List CK → Bool
  | [], [] => true
  | t :: ts, k :: ks => (match P.underlying t with
    | some u => k.under u
    | none => false) && leavesAre P ts ks
  | _, _ => false
theorem leaves_at {P : Program} : ∀ {ls : List TypeId} {ks : List CK}, leavesAre P ls ks = true → ls.length = ks.length ∧ ∀ (c : Nat) k, ks[c]? = some k → ∃ τ u, ls[c]? = some τ ∧ P.underlying τ = some u ∧ k.under u = true
  | [], [], _ => ⟨rfl, fun c k h => by simp at h⟩
  | [], _ :: _, h => by simp [leavesAre] at h
  | _ :: _, [], h => by simp [leavesAre] at h
  | f :: fs, k :: ks, h => by
    simp only [leavesAre, Bool.and_eq_true] at h
    obtain ⟨h1, h2⟩ := h
    obtain ⟨g1, g2⟩ := leaves_at h2
    refine ⟨by simp [g1], fun c k' hk => ?_⟩
    cases c with
    | zero =>
      simp at hk
      subst hk
      cases hu : P.underlying f with
      | none => rw [hu] at h1; cases h1
      | some u => rw [hu] at h1; exact ⟨f, u, rfl, hu, h1⟩
    | succ c =>
      obtain ⟨f', u, hf, hu, hk'⟩ := g2 c k' (by simpa using hk)
      exact ⟨f', u, by simpa using hf, hu, hk'⟩
set_option maxRecDepth 100000 in
theorem open_nest {H : Type} {enc : TypeId × Value → H} {P : Program} {w : World} {base : Nat} {held : Bool} {r : Reach} {b0 : Nat} {t e : TypeId} {ls : List TypeId} {v : Value} {d : DataW H} {ps : List MemPlace} (ht : P.underlying t = some (.slice e)) (hl : leavesT P 9 e = some ls) (hC : P.cellsOf e = ls.length) (hpos : 0 < ls.length)
    (hval : Value.okWide P w r b0 t v) (h : DataW.Trod enc P w base (fun _ => true) held t v d ps) :
    ∃ (A : Option Addr) (n c : Nat), v = .slice A n c ∧ n ≤ c ∧ c ≤ maxLen ∧ (0 < n → ∃ b o, A = some ⟨b, o, none⟩ ∧ b < w.heap.size ∧
      ∀ i, i < n → ∀ (j : Nat) (τ : TypeId), ls[j]? = some τ → ∃ u, w.cell? ⟨b, o + (i * ls.length + j), none⟩ = some u ∧ ∃ m y, DataW.trod enc P w base (fun _ => true) held m τ [u] = some y) := by
  obtain ⟨fuel, hf⟩ := h
  obtain ⟨A, n, c, rfl⟩ := okWide_slice ht hval
  rcases open_slice ht hf with ⟨hcs, hx⟩ | ⟨a, len, cap, m, k, D, Pl, hcs, _, hl', hm, hmm, hx, hi⟩
  · simp [Value.cells] at hcs
    obtain ⟨rfl, rfl, rfl⟩ := hcs
    exact ⟨none, 0, 0, rfl, Nat.le_refl _, by simp [maxLen], fun h => absurd h (by omega)⟩
  · simp [Value.cells] at hcs
    obtain ⟨rfl, rfl, rfl⟩ := hcs
    simp only [if_true] at hmm
    refine ⟨some a, n, c, rfl, hl', hm, fun hn => ?_⟩
    have each : ∀ i, i < n → ∀ (j : Nat) (τ : TypeId), ls[j]? = some τ → ∃ u, w.cell? (a.add (i * ls.length + j)) = some u ∧ ∃ m y, DataW.trod enc P w base (fun _ => true) held m τ [u] = some y := fun i hin j τ hj => by
      obtain ⟨cs', hc, ht'⟩ := hi i (by omega)
      rw [hC] at hc
      obtain ⟨_, hcl, hat⟩ := World.cells?_some hc
      have hjl : j < ls.length := (List.getElem?_eq_some_iff.1 hj).1
      have hcell := hat j hjl
      have hv : cs'[j]? = some (cs'[j]'(by omega)) := List.getElem?_eq_getElem (by omega)
      have hlo := leaf_ok 9 e ls _ cs' _ hl hC.symm (by omega) ht' j τ _ hj hv
      refine ⟨_, ?_, hlo⟩
      rw [← Go.Deep.add_add, hcell, hv]
    obtain ⟨τ0, hf0⟩ : ∃ f, ls[0]? = some f := ⟨ls[0], List.getElem?_eq_getElem hpos⟩
    obtain ⟨u0, h0, _⟩ := each 0 hn 0 τ0 hf0
    have hs : a.spot = none := by simpa [Addr.add] using World.cell?_spot h0
    obtain ⟨b, o, sp⟩ := a
    simp only at hs
    subst hs
    refine ⟨b, o, rfl, by simpa [Addr.add] using cell_lt h0, fun i hin j f hj => ?_⟩
    obtain ⟨u, h1, h2⟩ := each i hin j f hj
    have e1 : (⟨b, o, none⟩ : Addr).add (i * ls.length + j) = ⟨b, o + (i * ls.length + j), none⟩ := by unfold Addr.add; split <;> simp_all
    rw [e1] at h1
    exact ⟨u, h1, h2⟩
set_option maxRecDepth 100000 in
/-- A slice of nested structs came in. -/
theorem open_nrows {H : Type} {enc : TypeId × Value → H} {w : World} {base : Nat} {held : Bool} {r : Reach} {b0 : Nat} {v : Value} {d : DataW H} {ps : List MemPlace} {t e : TypeId} {ls : List TypeId} (ks : List CK)
    (ht : Tryd.prog.underlying t = some (.slice e)) (hl : leavesT Tryd.prog 9 e = some ls) (hC : Tryd.prog.cellsOf e = ls.length) (hpos : 0 < ls.length) (hks : leavesAre Tryd.prog ls ks = true)
    (hval : Value.okWide Tryd.prog w r b0 t v) (h : DataW.Trod enc Tryd.prog w base (fun _ => true) held t v d ps) :
    ∃ (A : Option Addr) (n c : Nat) (cs : List Col) (i : LI), v = .slice A n c ∧ n ≤ c ∧ c ≤ 9223372036854775807 ∧ Fits n ks cs ∧ InB w A n (.rows cs) i := by
  obtain ⟨A, n, c, rfl, h1, h2, h3⟩ := open_nest ht hl hC hpos hval h
  obtain ⟨hll, hat⟩ := leaves_at hks
  have hsz : ls.length = ks.length := hll
  have hrow : ∀ (b o : Nat), (∀ i, i < n → ∀ (j : Nat) (τ : TypeId), ls[j]? = some τ → ∃ u, w.cell? ⟨b, o + (i * ls.length + j), none⟩ = some u ∧ ∃ m y, DataW.trod enc Tryd.prog w base (fun _ => true) held m τ [u] = some y) →
      ∀ c k, ks[c]? = some k → ∀ j, j < n → ∃ v, w.cell? ⟨b, o + (j * ks.length + c), none⟩ = some v ∧ k.val v := fun b o hi c k hk j hj => by
    obtain ⟨f, u, hf, hu, hku⟩ := hat c k hk
    obtain ⟨x, hx, hx2⟩ := hi j hj c f hf
    rw [hsz] at hx
    refine ⟨x, hx, ?_⟩
    cases k with
    | i k =>
      cases u <;> simp only [CK.under] at hku <;> try cases hku
      rename_i k'
      have := of_decide_eq_true hku
      subst this
      exact field_int hu hx2
    | b =>
      cases u <;> simp only [CK.under] at hku <;> try cases hku
      exact field_bool hu hx2
  have hc : c ≤ 9223372036854775807 := by unfold maxLen at h2; omega
  by_cases hn : 0 < n
  · obtain ⟨b, o, e, hb, hi⟩ := h3 hn
    obtain ⟨cs, g1, g2, g3, g4⟩ := cols_of n ks (fun j c => w.cell? ⟨b, o + (j * ks.length + c), none⟩) (hrow b o hi)
    obtain ⟨i, hin⟩ := in_rows (w := w) (A := A) (n := n) (cs := cs) (fun h => by omega) (fun _ => ⟨b, o, e, hb, fun c cl r v hc hv => by
      have := g4 c cl r v hc hv
      rw [← g1] at this
      exact this⟩)
    exact ⟨A, n, c, cs, i, rfl, h1, hc, g2, hin⟩
  · have h0 : n = 0 := by omega
    obtain ⟨cs, g1, g2, g3, _⟩ := cols_of n ks (fun _ _ => none) (fun c k _ j hj => by omega)
    obtain ⟨i, hin⟩ := in_rows (w := w) (A := A) (n := n) (cs := cs) (fun h => g3 h) (fun h => absurd h hn)
    exact ⟨A, n, c, cs, i, rfl, h1, hc, g2, hin⟩
end Go.Proofs.YtbjealobiblabaaDoor

namespace Go.Proofs.YtbjealobiblabaaDoor
open Go Go.ChangeShapes Go.WideShapes Go.ChangeAt Go.RowKit Go.Deep
/-- Blocks as bits. -/
def tgOf : List (Nat × Nat) → Nat
  | [] => 0
  | (n, b) :: r => addTg (tgOf r) n b
theorem tgOf_bit : ∀ {l : List (Nat × Nat)} {k : Nat}, (tgOf l).testBit k = true ↔ ∃ n, 0 < n ∧ (n, k) ∈ l
  | [], k => by simp [tgOf, Nat.zero_testBit]
  | (n, b) :: r, k => by
    simp only [tgOf, addTg_bit, tgOf_bit, List.mem_cons, Prod.mk.injEq]
    constructor
    · rintro (⟨m, h1, h2⟩ | ⟨h1, rfl⟩)
      · exact ⟨m, h1, .inr h2⟩
      · exact ⟨n, h1, .inl ⟨rfl, rfl⟩⟩
    · rintro ⟨m, h1, (⟨rfl, rfl⟩ | h2)⟩
      · exact .inr ⟨h1, rfl⟩
      · exact .inl ⟨m, h1, h2⟩
/-- What stands in one cell: a slice, and what its block holds. -/
structure SlIn (w : World) (x : Value) (n : Nat) (k : Cont) (tg : Nat) : Prop where
  at_ : ∃ A c, x = .slice A n c ∧ n ≤ c ∧ (0 < n → ∃ b o, A = some ⟨b, o, none⟩ ∧ tg.testBit b = true ∧ ∀ (ρ' : Rho) (nx' : Nat), k.rel ρ' nx' (fun t => w.cell? ⟨b, o + t, none⟩))
theorem SlIn.more {w : World} {x : Value} {n : Nat} {k : Cont} {tg tg' : Nat} (h : SlIn w x n k tg) (ht : ∀ g, tg.testBit g = true → tg'.testBit g = true) : SlIn w x n k tg' := by
  obtain ⟨A, c, h1, h2, h3⟩ := h.at_
  refine ⟨A, c, h1, h2, fun hn => ?_⟩
  obtain ⟨b, o, g1, g2, g3⟩ := h3 hn
  exact ⟨b, o, g1, ht _ g2, g3⟩
/-- All cells of a column hold slices. -/
theorem nest_of {α : Type} (d : α) (len : α → Nat) (cont : α → Cont) (good : α → Prop) {w : World} (n : Nat) (cell : Nat → Option Value)
    (h : ∀ j, j < n → ∃ x A c, cell j = some (.slice A (len x) c) ∧ len x ≤ c ∧ good x ∧ (0 < len x → ∃ b o, A = some ⟨b, o, none⟩ ∧ (∃ cur e fz, w.heap[b]? = some (.cells cur e fz)) ∧ ∀ (ρ' : Rho) (nx' : Nat), (cont x).rel ρ' nx' (fun t => w.cell? ⟨b, o + t, none⟩))) :
    ∃ (l : List α) (tg : Nat), l.length = n ∧ (∀ j, j < n → good (l.getD j d)) ∧ (∀ g, tg.testBit g = true → ∃ cur e fz, w.heap[g]? = some (.cells cur e fz)) ∧ ∀ j, j < n → ∃ x, cell j = some x ∧ SlIn w x (len (l.getD j d)) (cont (l.getD j d)) tg := by
  obtain ⟨L, hL, hp⟩ := lists_of (d, 0) (p := fun j (q : α × Nat) => ∃ A c, cell j = some (.slice A (len q.1) c) ∧ len q.1 ≤ c ∧ good q.1 ∧ (0 < len q.1 → ∃ o, A = some ⟨q.2, o, none⟩ ∧ (∃ cur e fz, w.heap[q.2]? = some (.cells cur e fz)) ∧ ∀ (ρ' : Rho) (nx' : Nat), (cont q.1).rel ρ' nx' (fun t => w.cell? ⟨q.2, o + t, none⟩))) n fun j hj => by
    obtain ⟨x, A, c, h1, h2, h3, h4⟩ := h j hj
    by_cases h0 : 0 < len x
    · obtain ⟨b, o, g1, g2, g3⟩ := h4 h0
      exact ⟨(x, b), A, c, h1, h2, h3, fun _ => ⟨o, g1, g2, g3⟩⟩
    · exact ⟨(x, 0), A, c, h1, h2, h3, fun h => absurd h h0⟩
  have hg : ∀ j, j < n → ((L.map fun q => q.1).getD j d) = (L.getD j (d, 0)).1 := fun j hj => by
    simp [List.getD_eq_getElem?_getD, show j < L.length by omega]
  refine ⟨L.map fun q => q.1, tgOf (L.map fun q => (len q.1, q.2)), by simp [hL], fun j hj => ?_, fun g hb => ?_, fun j hj => ?_⟩
  · rw [hg j hj]
    obtain ⟨A, c, _, _, h3, _⟩ := hp j hj
    exact h3
  · obtain ⟨m, hm, hmem⟩ := tgOf_bit.1 hb
    obtain ⟨q, hq, e⟩ := List.mem_map.1 hmem
    cases e
    obtain ⟨j, hj, rfl⟩ := List.mem_iff_getElem.1 hq
    obtain ⟨A, c, _, _, _, h4⟩ := hp j (by omega)
    rw [List.getD_eq_getElem?_getD, List.getElem?_eq_getElem hj] at h4
    obtain ⟨o, _, g2, _⟩ := h4 hm
    exact g2
  · rw [hg j hj]
    obtain ⟨A, c, h1, h2, h3, h4⟩ := hp j hj
    refine ⟨_, h1, A, c, rfl, h2, fun h0 => ?_⟩
    obtain ⟨o, g1, g2, g3⟩ := h4 h0
    refine ⟨_, o, g1, tgOf_bit.2 ⟨_, h0, List.mem_map.2 ⟨L.getD j (d, 0), ?_, rfl⟩⟩, g3⟩
    rw [List.getD_eq_getElem?_getD, List.getElem?_eq_getElem (show j < L.length by omega)]
    exact List.getElem_mem _
/-- A slice of slices that came in, for reading. -/
structure NestIn (w : World) (A : Option Addr) (n : Nat) (cs : List NCol) (i : LI) : Prop where
  at_ : 0 < n → A = some ⟨i.b, i.o, none⟩
  ok : ∀ (ρ : Rho) (nx : Nat), (⟨false, false, .obj (.nest cs [])⟩ : ABlk).ok ρ nx i w
theorem NestIn.arg {w : World} {A : Option Addr} {n c l nx : Nat} {cs : List NCol} {ρ : Rho} (h : NestIn w A n cs (ρ l)) (hl : l < nx) (hnc : n ≤ c) (wd s : Nat) : AV.rel ρ nx (.sl false l wd 0 s n (some c)) (.slice A n c) := by
  simp only [AV.rel]
  refine ⟨hl, A, c, rfl, hnc, fun hn => ?_, (fun h => by cases h), rfl⟩
  rw [h.at_ hn]; simp
theorem nest_in {w : World} {A : Option Addr} {n : Nat} {cs : List NCol} {tg : Nat} (hlen : ∀ nc ∈ cs, nc.len = n) (hne : cs ≠ [])
    (h : 0 < n → ∃ b o, A = some ⟨b, o, none⟩ ∧ b < w.heap.size ∧ (∀ g, tg.testBit g = true → ∃ cur e fz, w.heap[g]? = some (.cells cur e fz)) ∧ ∀ (c : Nat) (nc : NCol) (j : Nat), cs[c]? = some nc → j < n → ∃ x, w.cell? ⟨b, o + (j * cs.length + c), none⟩ = some x ∧ SlIn w x (nc.at j).1 (nc.at j).2 tg) : ∃ i, NestIn w A n cs i := by
  by_cases hn : 0 < n
  · obtain ⟨b, o, e, hb, ht, hc⟩ := h hn
    refine ⟨⟨b, o, 0, tg⟩, fun _ => e, fun ρ nx => ⟨.inl hb, (fun r c a ha => by cases ha), (fun h => by cases h), (fun h => by cases h), fun q hq => ?_⟩⟩
    cases hq
    intro _
    refine ⟨ht, fun c nc j hcs hj => ?_⟩
    rw [hlen nc (List.mem_of_getElem? hcs)] at hj
    obtain ⟨x, h1, A', c', rfl, h2, h3⟩ := hc c nc j hcs hj
    exact ⟨A', c', h1, h2, h3⟩
  · have h0 : nestB cs = false := by
      cases hb : nestB cs with
      | false => rfl
      | true =>
        obtain ⟨c, nc, hc, hl⟩ := nestB_some hb
        rw [hlen nc (List.mem_of_getElem? hc)] at hl
        exact absurd hl hn
    exact ⟨⟨0, 0, 0, 0⟩, fun h => absurd h hn, fun ρ nx => ABlk.ok.any ⟨rfl, rfl, fun q hq => by cases hq; simp [QObj.hollow, h0], fun r c a ha => by cases ha⟩ w⟩
set_option maxRecDepth 100000 in
/-- A slice in a cell: where its elements' leaves stand. -/
theorem open_slcell {H : Type} {enc : TypeId × Value → H} {P : Program} {w : World} {base : Nat} {held : Bool} {t e : TypeId} {ls : List TypeId} {u : Value} (ht : P.underlying t = some (.slice e)) (hl : leavesT P 9 e = some ls) (hC : P.cellsOf e = ls.length) (hpos : 0 < ls.length)
    (h : ∃ m y, DataW.trod enc P w base (fun _ => true) held m t [u] = some y) :
    ∃ (A : Option Addr) (n c : Nat), u = .slice A n c ∧ n ≤ c ∧ c ≤ maxLen ∧ (0 < n → ∃ b o, A = some ⟨b, o, none⟩ ∧ b < w.heap.size ∧
      ∀ i, i < n → ∀ (j : Nat) (τ : TypeId), ls[j]? = some τ → ∃ v, w.cell? ⟨b, o + (i * ls.length + j), none⟩ = some v ∧ ∃ m y, DataW.trod enc P w base (fun _ => true) held m τ [v] = some y) := by
  obtain ⟨fuel, y, hf⟩ := h
  rcases open_slice ht hf with ⟨hcs, hx⟩ | ⟨a, len, cap, m, k, D, Pl, hcs, _, hl', hm, hmm, hx, hi⟩
  · simp at hcs
    subst hcs
    exact ⟨none, 0, 0, rfl, Nat.le_refl _, by simp [maxLen], fun h => absurd h (by omega)⟩
  · simp at hcs
    subst hcs
    simp only [if_true] at hmm
    refine ⟨some a, len, cap, rfl, hl', hm, fun hn => ?_⟩
    have each : ∀ i, i < len → ∀ (j : Nat) (τ : TypeId), ls[j]? = some τ → ∃ v, w.cell? (a.add (i * ls.length + j)) = some v ∧ ∃ m y, DataW.trod enc P w base (fun _ => true) held m τ [v] = some y := fun i hin j τ hj => by
      obtain ⟨cs', hc, ht'⟩ := hi i (by omega)
      rw [hC] at hc
      obtain ⟨_, hcl, hat⟩ := World.cells?_some hc
      have hjl : j < ls.length := (List.getElem?_eq_some_iff.1 hj).1
      have hcell := hat j hjl
      have hv : cs'[j]? = some (cs'[j]'(by omega)) := List.getElem?_eq_getElem (by omega)
      have hlo := leaf_ok 9 e ls _ cs' _ hl hC.symm (by omega) ht' j τ _ hj hv
      refine ⟨_, ?_, hlo⟩
      rw [← Go.Deep.add_add, hcell, hv]
    obtain ⟨τ0, hf0⟩ : ∃ f, ls[0]? = some f := ⟨ls[0], List.getElem?_eq_getElem hpos⟩
    obtain ⟨u0, h0, _⟩ := each 0 hn 0 τ0 hf0
    have hs : a.spot = none := by simpa [Addr.add] using World.cell?_spot h0
    obtain ⟨b, o, sp⟩ := a
    simp only at hs
    subst hs
    refine ⟨b, o, rfl, by simpa [Addr.add] using cell_lt h0, fun i hin j f hj => ?_⟩
    obtain ⟨u, h1, h2⟩ := each i hin j f hj
    have e1 : (⟨b, o, none⟩ : Addr).add (i * ls.length + j) = ⟨b, o + (i * ls.length + j), none⟩ := by unfold Addr.add; split <;> simp_all
    rw [e1] at h1
    exact ⟨u, h1, h2⟩
/-- Numbers in a slice that stands in a cell. -/
theorem open_intcell {H : Type} {enc : TypeId × Value → H} {P : Program} {w : World} {base : Nat} {held : Bool} {t e : TypeId} {k : IntKind} {u : Value} (ht : P.underlying t = some (.slice e)) (he : P.underlying e = some (.int k)) (hl : leavesT P 9 e = some [e]) (hC : P.cellsOf e = 1)
    (h : ∃ m y, DataW.trod enc P w base (fun _ => true) held m t [u] = some y) :
    ∃ (zs : List Int) (A : Option Addr) (c : Nat), u = .slice A zs.length c ∧ zs.length ≤ c ∧ (c ≤ maxLen ∧ ∀ j, j < zs.length → (Lit.int k (zs.getD j 0)).wf = true) ∧ (0 < zs.length → ∃ b o, A = some ⟨b, o, none⟩ ∧ (∃ cur e fz, w.heap[b]? = some (.cells cur e fz)) ∧ ∀ (ρ' : Rho) (nx' : Nat), (Cont.col (.ints k zs)).rel ρ' nx' (fun t => w.cell? ⟨b, o + t, none⟩)) := by
  obtain ⟨A, n, c, rfl, h1, h2, h3⟩ := open_slcell ht hl hC (by simp) h
  by_cases hn : 0 < n
  · obtain ⟨b, o, rfl, hb, hi⟩ := h3 hn
    obtain ⟨zs, hz, hp⟩ := lists_of (0 : Int) (p := fun j z => w.cell? ⟨b, o + j, none⟩ = some (.int k z) ∧ (Lit.int k z).wf = true) n fun j hj => by
      obtain ⟨v, g1, g2⟩ := hi j hj 0 e rfl
      obtain ⟨z, rfl, hw⟩ := field_int he g2
      exact ⟨z, by simpa using g1, hw⟩
    subst hz
    refine ⟨zs, _, c, rfl, h1, ⟨h2, fun j hj => (hp j hj).2⟩, fun _ => ⟨b, o, rfl, cell_cells (hp 0 hn).1, fun ρ nx r c a ha => ?_⟩⟩
    cases c <;> simp only [Cont.at] at ha <;> try cases ha
    simp only [Col.at, Option.some.injEq, Prod.mk.injEq, decide_eq_true_eq] at ha
    obtain ⟨rfl, hlt⟩ := ha
    exact ⟨by simp [Cont.width], _, by simpa [Cont.width] using (hp r hlt).1, by simp [AV.rel]⟩
  · have h0 : n = 0 := by omega
    subst h0
    exact ⟨[], A, c, rfl, h1, ⟨h2, fun j hj => absurd hj (by simp)⟩, fun h => absurd h (by simp)⟩
theorem open_boolcell {H : Type} {enc : TypeId × Value → H} {P : Program} {w : World} {base : Nat} {held : Bool} {t e : TypeId} {u : Value} (ht : P.underlying t = some (.slice e)) (he : P.underlying e = some .bool) (hl : leavesT P 9 e = some [e]) (hC : P.cellsOf e = 1)
    (h : ∃ m y, DataW.trod enc P w base (fun _ => true) held m t [u] = some y) :
    ∃ (zs : List Bool) (A : Option Addr) (c : Nat), u = .slice A zs.length c ∧ zs.length ≤ c ∧ c ≤ maxLen ∧ (0 < zs.length → ∃ b o, A = some ⟨b, o, none⟩ ∧ (∃ cur e fz, w.heap[b]? = some (.cells cur e fz)) ∧ ∀ (ρ' : Rho) (nx' : Nat), (Cont.col (.bools zs)).rel ρ' nx' (fun t => w.cell? ⟨b, o + t, none⟩)) := by
  obtain ⟨A, n, c, rfl, h1, h2, h3⟩ := open_slcell ht hl hC (by simp) h
  by_cases hn : 0 < n
  · obtain ⟨b, o, rfl, hb, hi⟩ := h3 hn
    obtain ⟨zs, hz, hp⟩ := lists_of false (p := fun j z => w.cell? ⟨b, o + j, none⟩ = some (.bool z)) n fun j hj => by
      obtain ⟨v, g1, g2⟩ := hi j hj 0 e rfl
      obtain ⟨z, rfl⟩ := field_bool he g2
      exact ⟨z, by simpa using g1⟩
    subst hz
    refine ⟨zs, _, c, rfl, h1, h2, fun _ => ⟨b, o, rfl, cell_cells (hp 0 hn), fun ρ nx r c a ha => ?_⟩⟩
    cases c <;> simp only [Cont.at] at ha <;> try cases ha
    simp only [Col.at, Option.some.injEq, Prod.mk.injEq, decide_eq_true_eq] at ha
    obtain ⟨rfl, hlt⟩ := ha
    exact ⟨by simp [Cont.width], _, (by show w.cell? ⟨b, o + (r * 1 + 0), none⟩ = _; rw [Nat.mul_one, Nat.add_zero]; exact hp r hlt), by simp [AV.rel]⟩
  · have h0 : n = 0 := by omega
    subst h0
    exact ⟨[], A, c, rfl, h1, h2, fun h => absurd h (by simp)⟩
set_option maxRecDepth 100000 in
/-- A slice of slices of numbers came in. -/
theorem open_intss {H : Type} {enc : TypeId × Value → H} {P : Program} {w : World} {base : Nat} {held : Bool} {r : Reach} {b0 : Nat} {t t1 e : TypeId} {k : IntKind} {v : Value} {d : DataW H} {ps : List MemPlace} (ht : P.underlying t = some (.slice t1)) (ht1 : P.underlying t1 = some (.slice e)) (he : P.underlying e = some (.int k))
    (hl : leavesT P 9 e = some [e]) (hC : P.cellsOf e = 1) (hl1 : leavesT P 9 t1 = some [t1]) (hC1 : P.cellsOf t1 = 1)
    (hval : Value.okWide P w r b0 t v) (h : DataW.Trod enc P w base (fun _ => true) held t v d ps) :
    ∃ (A : Option Addr) (n c : Nat) (zss : List (List Int)) (i : LI), v = .slice A n c ∧ n ≤ c ∧ c ≤ 9223372036854775807 ∧ zss.length = n ∧ (∀ j, j < n → (zss.getD j []).length ≤ 9223372036854775807 ∧ ∀ m, m < (zss.getD j []).length → (Lit.int k ((zss.getD j []).getD m 0)).wf = true) ∧ NestIn w A n [.ints k zss] i := by
  obtain ⟨A, n, c, rfl, h1, h2, h3⟩ := open_nest ht hl1 hC1 (by simp) hval h
  have hc : c ≤ 9223372036854775807 := by unfold maxLen at h2; omega
  have hmx : maxLen ≤ 9223372036854775807 := by simp [maxLen]
  by_cases hn : 0 < n
  · obtain ⟨b, o, rfl, hb, hi⟩ := h3 hn
    obtain ⟨l, tg, g1, g2, g3, g4⟩ := nest_of ([] : List Int) List.length (fun zs => .col (.ints k zs)) (fun zs => zs.length ≤ 9223372036854775807 ∧ ∀ m, m < zs.length → (Lit.int k (zs.getD m 0)).wf = true) (w := w) n (fun j => w.cell? ⟨b, o + j, none⟩) fun j hj => by
      obtain ⟨u, f1, f2⟩ := hi j hj 0 t1 rfl
      obtain ⟨zs, A', c', rfl, e1, e2, e3⟩ := open_intcell ht1 he hl hC f2
      exact ⟨zs, A', c', by simpa using f1, e1, ⟨by omega, e2.2⟩, e3⟩
    obtain ⟨i, hin⟩ := nest_in (w := w) (A := some ⟨b, o, none⟩) (n := n) (cs := [.ints k l]) (tg := tg) (fun nc hnc => by simp at hnc; subst hnc; exact g1) (by simp) fun _ => ⟨b, o, rfl, hb, g3, fun c nc j hcs hj => by
      match c, hcs with
      | 0, hcs =>
        simp at hcs
        subst hcs
        obtain ⟨x, f1, f2⟩ := g4 j hj
        exact ⟨x, by simpa using f1, f2⟩
      | c + 1, hcs => simp at hcs⟩
    exact ⟨_, n, c, l, i, rfl, h1, hc, g1, g2, hin⟩
  · have h0 : n = 0 := by omega
    subst h0
    obtain ⟨i, hin⟩ := nest_in (w := w) (A := A) (n := 0) (cs := [.ints k []]) (tg := 0) (fun nc hnc => by simp at hnc; subst hnc; rfl) (by simp) fun h => absurd h (by omega)
    exact ⟨A, 0, c, [], i, rfl, h1, hc, rfl, fun j hj => absurd hj (by omega), hin⟩
end Go.Proofs.YtbjealobiblabaaDoor
