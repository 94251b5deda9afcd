/-
  The executor: what a function's text reckons to, and why it is so.
-/
import Derived.OrdersIn
import Derived.RangeFuncRecord
import Derived.RangeFuncIn
import Derived.RangeFuncLeaves
import Derived.Below
import Derived.Laws.Cells
import Derived.Laws.IdiomCopy
import Derived.Laws.AppendOwn
import Derived.Laws.IdiomStrings
import Derived.Laws.MakeOwn
namespace Go.Proofs.Ytmjpikkloofakaa
open Go Go.RowKit

/-- Where a name's block lies: its block, the first cell, how many cells there are from there on; the blocks that its cells point to (a bit each). -/
structure LI where
  b : Nat
  o : Nat
  cap : Nat
  tg : Nat
abbrev Rho := Nat → LI

inductive AV where
  | unk
  | val (v : Value)
  | any (k : IntKind)
  | ptr (l w r c : Nat)
  | sl (nn : Bool) (l w r s n : Nat) (cap : Option Nat)
  | gd (t : Nat) (wt g : Bool) (v : AV)
  | clo (f : FuncId) (first captured : List AV)
  | agg (cs : List AV)
  | tup (vs : List AV)
  | yld (l : Nat)
  | mp (l : Nat)

mutual
def AV.rel (ρ : Rho) (nx : Nat) : AV → Value → Prop
  | .unk, _ => True
  | .val v, x => x = v
  | .any k, x => ∃ z, x = .int k z ∧ (Lit.int k z).wf = true
  | .ptr l w r c, x => l < nx ∧ x = .pointer (some ⟨(ρ l).b, (ρ l).o + (r * w + c), none⟩)
  | .sl nn l w r s n cap, x => l < nx ∧ ∃ A c, x = .slice A n c ∧ n ≤ c ∧ (0 < n → A = some ⟨(ρ l).b, (ρ l).o + r * w, none⟩) ∧ (nn = true → A.isSome = true) ∧ (match cap with | some c' => c = c' | none => r * w + c * (s * w) ≤ (ρ l).cap)
  | .gd _ _ g v, x => (g = true → AV.rel ρ nx v x) ∧ (g = false → x = undef)
  | .clo f fs cs, x => ∃ xs ys : List Value, x = .func (.func f) xs.toArray ys.toArray ∧ AV.rels ρ nx fs xs ∧ AV.rels ρ nx cs ys
  | .agg cs, x => ∃ xs : List Value, x = .agg xs.toArray ∧ AV.rels ρ nx cs xs
  | .tup cs, x => ∃ xs : List Value, x = .tuple xs.toArray ∧ AV.rels ρ nx cs xs
  | .yld l, x => l < nx ∧ x = .func (.yield (ρ l).b) #[] #[]
  | .mp l, x => l < nx ∧ x = .map (some (ρ l).b)
def AV.rels (ρ : Rho) (nx : Nat) : List AV → List Value → Prop
  | [], xs => xs = []
  | a :: as, xs => ∃ y ys, xs = y :: ys ∧ AV.rel ρ nx a y ∧ AV.rels ρ nx as ys
end

section
variable {ρ ρ' : Rho} {nx nx' : Nat}
mutual
theorem AV.rel.ext (h : ∀ l, l < nx → ρ' l = ρ l) (hn : nx ≤ nx') : ∀ (a : AV) (x : Value), AV.rel ρ nx a x → AV.rel ρ' nx' a x
  | .unk, _, _ => by simp only [AV.rel]
  | .val v, x, hx => by simpa only [AV.rel] using hx
  | .any k, x, hx => by simpa only [AV.rel] using hx
  | .ptr l w r c, x, hx => by
    simp only [AV.rel] at hx ⊢
    rw [h l hx.1]
    exact ⟨by omega, hx.2⟩
  | .sl nn l w r s n cap, x, hx => by
    simp only [AV.rel] at hx ⊢
    rw [h l hx.1]
    exact ⟨by omega, hx.2⟩
  | .gd _ _ g v, x, hx => by
    simp only [AV.rel] at hx ⊢
    exact ⟨fun hg => AV.rel.ext h hn v x (hx.1 hg), hx.2⟩
  | .clo f fs cs, x, hx => by
    simp only [AV.rel] at hx ⊢
    obtain ⟨xs, ys, e, h1, h2⟩ := hx
    exact ⟨xs, ys, e, AV.rels.ext h hn fs xs h1, AV.rels.ext h hn cs ys h2⟩
  | .agg cs, x, hx => by
    simp only [AV.rel] at hx ⊢
    obtain ⟨xs, e, h1⟩ := hx
    exact ⟨xs, e, AV.rels.ext h hn cs xs h1⟩
  | .tup cs, x, hx => by
    simp only [AV.rel] at hx ⊢
    obtain ⟨xs, e, h1⟩ := hx
    exact ⟨xs, e, AV.rels.ext h hn cs xs h1⟩
  | .yld l, x, hx => by
    simp only [AV.rel] at hx ⊢
    rw [h l hx.1]
    exact ⟨by omega, hx.2⟩
  | .mp l, x, hx => by
    simp only [AV.rel] at hx ⊢
    rw [h l hx.1]
    exact ⟨by omega, hx.2⟩
theorem AV.rels.ext (h : ∀ l, l < nx → ρ' l = ρ l) (hn : nx ≤ nx') : ∀ (as : List AV) (xs : List Value), AV.rels ρ nx as xs → AV.rels ρ' nx' as xs
  | [], xs, hx => by simpa only [AV.rels] using hx
  | a :: as, xs, hx => by
    simp only [AV.rels] at hx ⊢
    obtain ⟨y, ys, e, h1, h2⟩ := hx
    exact ⟨y, ys, e, AV.rel.ext h hn a y h1, AV.rels.ext h hn as ys h2⟩
end
theorem AV.rels.len : ∀ {as : List AV} {xs : List Value}, AV.rels ρ nx as xs → as.length = xs.length
  | [], xs, h => by simp only [AV.rels] at h; simp [h]
  | a :: as, xs, h => by
    simp only [AV.rels] at h
    obtain ⟨y, ys, rfl, _, h2⟩ := h
    simp [AV.rels.len h2]
theorem AV.rels.at_ : ∀ {as : List AV} {xs : List Value} {i : Nat} {a : AV}, AV.rels ρ nx as xs → as[i]? = some a → ∃ x, xs[i]? = some x ∧ AV.rel ρ nx a x
  | [], xs, i, a, h, hi => by simp at hi
  | a :: as, xs, 0, a', h, hi => by
    simp only [AV.rels] at h
    obtain ⟨y, ys, rfl, h1, h2⟩ := h
    simp at hi
    subst hi
    exact ⟨y, rfl, h1⟩
  | a :: as, xs, i + 1, a', h, hi => by
    simp only [AV.rels] at h
    obtain ⟨y, ys, rfl, h1, h2⟩ := h
    simp at hi ⊢
    exact AV.rels.at_ h2 hi
theorem AV.rels.append : ∀ {as bs : List AV} {xs ys : List Value}, AV.rels ρ nx as xs → AV.rels ρ nx bs ys → AV.rels ρ nx (as ++ bs) (xs ++ ys)
  | [], bs, xs, ys, h, h' => by simp only [AV.rels] at h; subst h; simpa using h'
  | a :: as, bs, xs, ys, h, h' => by
    simp only [AV.rels] at h
    obtain ⟨y, zs, rfl, h1, h2⟩ := h
    simp only [List.cons_append, AV.rels]
    exact ⟨y, _, rfl, h1, AV.rels.append h2 h'⟩
theorem AV.rels.set : ∀ {as : List AV} {xs : List Value} {i : Nat} {a : AV} {x : Value}, AV.rels ρ nx as xs → AV.rel ρ nx a x → AV.rels ρ nx (as.set i a) (xs.set i x)
  | [], xs, i, a, x, h, _ => by simp only [AV.rels] at h; subst h; simp [AV.rels]
  | a :: as, xs, 0, a', x, h, hx => by
    simp only [AV.rels] at h
    obtain ⟨y, ys, rfl, h1, h2⟩ := h
    simp only [List.set_cons_zero, AV.rels]
    exact ⟨x, ys, rfl, hx, h2⟩
  | a :: as, xs, i + 1, a', x, h, hx => by
    simp only [AV.rels] at h
    obtain ⟨y, ys, rfl, h1, h2⟩ := h
    simp only [List.set_cons_succ, AV.rels]
    exact ⟨y, _, rfl, h1, AV.rels.set h2 hx⟩
theorem AV.rels.vals : ∀ (vs : List Value), AV.rels ρ nx (vs.map AV.val) vs
  | [] => by simp [AV.rels]
  | v :: vs => by
    simp only [List.map_cons, AV.rels]
    exact ⟨v, vs, rfl, by simp [AV.rel], AV.rels.vals vs⟩
theorem AV.rels.unks : ∀ (vs : List Value), AV.rels ρ nx (List.replicate vs.length AV.unk) vs
  | [] => by simp [AV.rels]
  | v :: vs => by
    simp only [List.length_cons, List.replicate_succ, AV.rels]
    exact ⟨v, vs, rfl, by simp [AV.rel], AV.rels.unks vs⟩
end

def AV.scalar : AV → Bool
  | .val v => v.oneCell'
  | .any _ => true
  | .ptr .. => true
  | .sl .. => true
  | .clo .. => true
  | .yld _ => true
  | .mp _ => true
  | _ => false
theorem AV.scalar_rel {ρ : Rho} {nx : Nat} {a : AV} {x : Value} (h : a.scalar = true) (hr : AV.rel ρ nx a x) : x.oneCell' = true := by
  cases a <;> simp only [AV.scalar, Bool.false_eq_true] at h <;> simp only [AV.rel] at hr
  · subst hr; exact h
  · obtain ⟨z, e, _⟩ := hr; rw [e]; rfl
  · rw [hr.2]; rfl
  · obtain ⟨_, a, c, e, _⟩ := hr; rw [e]; rfl
  · obtain ⟨xs, ys, e, _⟩ := hr; rw [e]; rfl
  · rw [hr.2]; rfl
  · rw [hr.2]; rfl

/-- One column of like cells. -/
inductive Col where
  | ints (k : IntKind) (zs : List Int)
  | bools (bs : List Bool)
  | strs (ss : List ByteArray)
def Col.at : Col → Nat → AV × Bool
  | .ints k zs, r => (.val (.int k (zs.getD r 0)), decide (r < zs.length))
  | .bools bs, r => (.val (.bool (bs.getD r false)), decide (r < bs.length))
  | .strs ss, r => (.val (.string (ss.getD r ⟨#[]⟩)), decide (r < ss.length))
def Col.set : Col → Nat → AV → Option (Col × Bool)
  | .ints k zs, r, .val (.int k' n) => match decide (k = k') with
    | true => some (.ints k (zs.set r n), decide (r < zs.length))
    | false => none
  | .bools bs, r, .val (.bool n) => some (.bools (bs.set r n), decide (r < bs.length))
  | .strs ss, r, .val (.string n) => some (.strs (ss.set r n), decide (r < ss.length))
  | _, _, _ => none
/-- One column of slices. -/
inductive NCol where
  | ints (k : IntKind) (zss : List (List Int))
  | bools (bss : List (List Bool))
  | strs (sss : List (List ByteArray))
  | heads (hss : List (List (Int × Int × Int × Int × Bool)))
def NCol.len : NCol → Nat
  | .ints _ l => l.length
  | .bools l => l.length
  | .strs l => l.length
  | .heads l => l.length
def nestB : List NCol → Bool
  | [] => false
  | c :: r => Nat.blt 0 c.len || nestB r
theorem nestB_some : ∀ {cs : List NCol}, nestB cs = true → ∃ (c : Nat) (nc : NCol), cs[c]? = some nc ∧ 0 < nc.len
  | [], h => by cases h
  | c :: r, h => by
    simp only [nestB, Bool.or_eq_true] at h
    rcases h with h | h
    · exact ⟨0, c, rfl, by simpa [Nat.blt_eq] using h⟩
    · obtain ⟨i, nc, h1, h2⟩ := nestB_some h
      exact ⟨i + 1, nc, by simpa using h1, h2⟩
theorem nestB_at : ∀ {cs : List NCol} {c : Nat} {nc : NCol}, cs[c]? = some nc → 0 < nc.len → nestB cs = true
  | [], c, nc, h, _ => by simp at h
  | x :: r, 0, nc, h, hl => by simp at h; subst h; simp [nestB, Nat.blt_eq, hl]
  | x :: r, c + 1, nc, h, hl => by simp only [nestB, Bool.or_eq_true]; exact .inr (nestB_at (by simpa using h) hl)
/-- The slices whose names are known: column, row, and the slice. -/
def foAt : List (Nat × Nat × AV) → Nat → Option (Nat × AV)
  | [], _ => none
  | (c, r, a) :: l, k => match Nat.beq c k with
    | true => some (r, a)
    | false => foAt l k
def foAVs : List (Nat × Nat × AV) → List AV
  | [] => []
  | (_, _, a) :: l => a :: foAVs l
theorem foAt_get : ∀ {fo : List (Nat × Nat × AV)} {c r : Nat} {a : AV}, foAt fo c = some (r, a) → ∃ i : Nat, (foAVs fo)[i]? = some a
  | [], c, r, a, h => by cases h
  | (c0, r0, a0) :: l, c, r, a, h => by
    simp only [foAt] at h
    split at h
    · cases h; exact ⟨0, rfl⟩
    · obtain ⟨i, hi⟩ := foAt_get h; exact ⟨i + 1, by simpa [foAVs] using hi⟩
/-- What is no row of cells, or stands at a known place: a package variable's cells; a loop over a function; slices in cells. -/
inductive QObj where
  | glob (g : Nat) (c : Col)
  | loop (st : Nat) (pe : Option Code) (tm : List AV) (ps : List Nat) (asg body : Code)
  | typed (t : TypeId) (l : List AV)
  | trow (t : TypeId) (s : ByteArray)
  | mpo (fk fv : Nat) (es : List (List Int × List Int))
  | mit (tm : List AV) (n : Nat) (seen : List Nat)
  | nest (cs : List NCol) (fo : List (Nat × Nat × AV))
inductive Cont where
  | cells (l : List AV)
  | col (c : Col)
  | rows (cs : List Col)
  | obj (q : QObj)
def Cont.width : Cont → Nat
  | .cells _ => 1
  | .col _ => 1
  | .rows cs => cs.length
  | .obj (.nest cs _) => cs.length
  | .obj _ => 1
def Cont.at : Cont → Nat → Nat → Option (AV × Bool)
  | .cells l, r, 0 => match l[r]? with
    | some a => some (a, true)
    | none => none
  | .col c, r, 0 => some (c.at r)
  | .rows cs, r, c => match cs[c]? with
    | some cl => some (cl.at r)
    | none => none
  | .obj (.typed _ l), r, 0 => match l[r]? with
    | some a => some (a, true)
    | none => none
  | .obj (.nest _ fo), r, c => match foAt fo c with
    | some (r', a) => some (a, Nat.beq r r')
    | none => none
  | _, _, _ => none
/-- One slice of a column: how long it is, what its block holds, and how wide a row of it is. -/
def NCol.at : NCol → Nat → Nat × Cont
  | .ints k l, j => ((l.getD j []).length, .col (.ints k (l.getD j [])))
  | .bools l, j => ((l.getD j []).length, .col (.bools (l.getD j [])))
  | .strs l, j => ((l.getD j []).length, .col (.strs (l.getD j [])))
  | .heads l, j => ((l.getD j []).length, .rows [.ints .i64 ((l.getD j []).map fun h => h.1), .ints .i64 ((l.getD j []).map fun h => h.2.1), .ints .i64 ((l.getD j []).map fun h => h.2.2.1), .ints .i64 ((l.getD j []).map fun h => h.2.2.2.1), .bools ((l.getD j []).map fun h => h.2.2.2.2)])
def NCol.wide : NCol → Nat
  | .heads _ => 5
  | _ => 1
theorem NCol.at_wide (nc : NCol) (j : Nat) : (nc.at j).2.width = nc.wide := by cases nc <;> rfl
theorem NCol.at_col {nc : NCol} {j r c : Nat} {a : AV} {b : Bool} (h : (nc.at j).2.at r c = some (a, b)) : ∃ v, a = .val v ∧ b = decide (r < (nc.at j).1) := by
  cases nc <;> simp only [NCol.at] at h ⊢
  case heads l =>
    match c, h with
    | 0, h => simp [Cont.at, Col.at] at h; exact ⟨_, h.1.symm, by rw [← h.2]; simp⟩
    | 1, h => simp [Cont.at, Col.at] at h; exact ⟨_, h.1.symm, by rw [← h.2]; simp⟩
    | 2, h => simp [Cont.at, Col.at] at h; exact ⟨_, h.1.symm, by rw [← h.2]; simp⟩
    | 3, h => simp [Cont.at, Col.at] at h; exact ⟨_, h.1.symm, by rw [← h.2]; simp⟩
    | 4, h => simp [Cont.at, Col.at] at h; exact ⟨_, h.1.symm, by rw [← h.2]; simp⟩
    | c + 5, h => simp [Cont.at] at h
  all_goals
    match c, h with
    | 0, h => simp only [Cont.at, Col.at, Option.some.injEq, Prod.mk.injEq] at h; exact ⟨_, h.1.symm, h.2.symm⟩
    | c + 1, h => cases h
def Cont.set : Cont → Nat → Nat → AV → Option (Cont × Bool)
  | .cells l, r, 0, v => match Nat.blt r l.length with
    | true => match v.scalar with
      | true => some (.cells (l.set r v), true)
      | false => none
    | false => none
  | .col c, r, 0, v => match c.set r v with
    | some (c', b) => some (.col c', b)
    | none => none
  | .rows cs, r, c, v => match cs[c]? with
    | some cl => match cl.set r v with
      | some (cl', b) => some (.rows (cs.set c cl'), b)
      | none => none
    | none => none
  | .obj (.typed t l), r, 0, v => match Nat.blt r l.length with
    | true => match v.scalar with
      | true => some (.obj (.typed t (l.set r v)), true)
      | false => none
    | false => none
  | _, _, _, _ => none
/-- A row of cells holds what is said. -/
def Cont.rel (ρ : Rho) (nx : Nat) (k : Cont) (cell : Nat → Option Value) : Prop :=
  ∀ r c a, k.at r c = some (a, true) → c < k.width ∧ ∃ x, cell (r * k.width + c) = some x ∧ AV.rel ρ nx a x
theorem Cont.rel.ext {ρ ρ' : Rho} {nx nx' : Nat} {k : Cont} {cell cell' : Nat → Option Value} (hr : k.rel ρ nx cell) (h : ∀ l, l < nx → ρ' l = ρ l) (hn : nx ≤ nx') (hc : ∀ i x, cell i = some x → cell' i = some x) : k.rel ρ' nx' cell' := fun r c a ha => by
  obtain ⟨h1, x, h2, h3⟩ := hr r c a ha
  exact ⟨h1, x, hc _ _ h2, AV.rel.ext h hn _ _ h3⟩
theorem Col.at_set {col col' : Col} {r : Nat} {v : AV} {b : Bool} (h : col.set r v = some (col', b)) :
    (∀ r' a, r' ≠ r → col'.at r' = (a, true) → col.at r' = (a, true)) ∧ (∀ a, col'.at r = (a, true) → a = v ∧ v.scalar = true) := by
  cases col with
  | ints k zs =>
    cases v <;> simp only [Col.set] at h <;> try cases h
    rename_i u
    cases u <;> simp only [Col.set] at h <;> try cases h
    rename_i k' n
    by_cases hk : k = k'
    · subst hk
      simp at h
      obtain ⟨rfl, rfl⟩ := h
      refine ⟨fun r' a hne ha => ?_, fun a ha => ?_⟩
      · simp only [Col.at, Prod.mk.injEq, List.length_set] at ha ⊢
        refine ⟨?_, ha.2⟩
        rw [← ha.1]
        simp [List.getElem?_set_ne (Ne.symm hne)]
      · simp only [Col.at, Prod.mk.injEq, List.length_set, decide_eq_true_eq] at ha
        refine ⟨?_, rfl⟩
        rw [← ha.1]
        simp [ha.2]
    · simp [hk] at h
  | bools bs =>
    cases v <;> simp only [Col.set] at h <;> try cases h
    rename_i u
    cases u <;> simp only [Col.set] at h <;> try cases h
    refine ⟨fun r' a hne ha => ?_, fun a ha => ?_⟩
    · simp only [Col.at, Prod.mk.injEq, List.length_set] at ha ⊢
      refine ⟨?_, ha.2⟩
      rw [← ha.1]
      simp [List.getElem?_set_ne (Ne.symm hne)]
    · simp only [Col.at, Prod.mk.injEq, List.length_set, decide_eq_true_eq] at ha
      refine ⟨?_, rfl⟩
      rw [← ha.1]
      simp [ha.2]
  | strs bs =>
    cases v <;> simp only [Col.set] at h <;> try cases h
    rename_i u
    cases u <;> simp only [Col.set] at h <;> try cases h
    refine ⟨fun r' a hne ha => ?_, fun a ha => ?_⟩
    · simp only [Col.at, Prod.mk.injEq, List.length_set] at ha ⊢
      refine ⟨?_, ha.2⟩
      rw [← ha.1]
      simp [List.getElem?_set_ne (Ne.symm hne)]
    · simp only [Col.at, Prod.mk.injEq, List.length_set, decide_eq_true_eq] at ha
      refine ⟨?_, rfl⟩
      rw [← ha.1]
      simp [ha.2]
theorem Col.set_scalar {col col' : Col} {r : Nat} {v : AV} {b : Bool} (h : col.set r v = some (col', b)) : v.scalar = true := by
  cases col <;> cases v <;> simp only [Col.set] at h <;> try cases h
  all_goals (rename_i u; cases u <;> simp only [Col.set] at h <;> first | (cases h; done) | rfl)
theorem rowcol {w r c r' c' : Nat} (hc : c < w) (hc' : c' < w) (h : r * w + c = r' * w + c') : r = r' ∧ c = c' := by
  have h1 : (r * w + c) % w = c := by rw [Nat.mul_comm, Nat.mul_add_mod, Nat.mod_eq_of_lt hc]
  have h2 : (r' * w + c') % w = c' := by rw [Nat.mul_comm, Nat.mul_add_mod, Nat.mod_eq_of_lt hc']
  have e : c = c' := by rw [← h1, ← h2, h]
  subst e
  have h3 : r * w = r' * w := by omega
  exact ⟨Nat.eq_of_mul_eq_mul_right (by omega) h3, rfl⟩
/-- What a store leaves. -/
theorem Cont.rel.set {ρ : Rho} {nx : Nat} {k k' : Cont} {cell cell' : Nat → Option Value} {r c : Nat} {v : AV} {b : Bool} {x : Value} (hr : k.rel ρ nx cell) (hs : k.set r c v = some (k', b)) (hv : AV.rel ρ nx v x)
    (h1 : cell' (r * k.width + c) = some x) (h2 : ∀ i, i ≠ r * k.width + c → cell' i = cell i) : k'.rel ρ nx cell' ∧ k'.width = k.width ∧ v.scalar = true ∧ c < k.width := by
  cases k with
  | cells l =>
    cases c <;> simp only [Cont.set] at hs <;> try cases hs
    cases hb : Nat.blt r l.length <;> simp only [hb] at hs <;> try cases hs
    cases hsc : v.scalar <;> simp only [hsc] at hs <;> try cases hs
    have hlt : r < l.length := by simpa [Nat.blt_eq] using hb
    refine ⟨fun r' c' a ha => ?_, rfl, rfl, by simp [Cont.width]⟩
    cases c' <;> simp only [Cont.at] at ha <;> try cases ha
    refine ⟨by simp [Cont.width], ?_⟩
    by_cases e : r' = r
    · subst e
      simp [hlt] at ha
      subst ha
      exact ⟨x, by simpa [Cont.width] using h1, hv⟩
    · rw [List.getElem?_set_ne (Ne.symm e)] at ha
      obtain ⟨_, y, hy1, hy2⟩ := hr r' 0 a (by simp only [Cont.at]; exact ha)
      exact ⟨y, by
        simp only [Cont.width] at h2 hy1 ⊢
        rw [h2 _ (by omega)]; exact hy1, hy2⟩
  | col col =>
    cases c <;> simp only [Cont.set] at hs <;> try cases hs
    cases hc : col.set r v with
    | none => simp [hc] at hs
    | some p =>
      obtain ⟨col', b'⟩ := p
      simp only [hc, Option.some.injEq, Prod.mk.injEq] at hs
      obtain ⟨rfl, rfl⟩ := hs
      obtain ⟨g1, g2⟩ := Col.at_set hc
      have hsc : v.scalar = true := Col.set_scalar hc
      refine ⟨fun r' c' a ha => ?_, rfl, hsc, by simp [Cont.width]⟩
      cases c' <;> simp only [Cont.at] at ha <;> try cases ha
      refine ⟨by simp [Cont.width], ?_⟩
      by_cases e : r' = r
      · subst e
        obtain ⟨rfl, _⟩ := g2 a (by simpa using ha)
        exact ⟨x, by simpa [Cont.width] using h1, hv⟩
      · obtain ⟨_, y, hy1, hy2⟩ := hr r' 0 a (by simp only [Cont.at]; rw [g1 r' a e (by simpa using ha)])
        exact ⟨y, by
          simp only [Cont.width] at h2 hy1 ⊢
          rw [h2 _ (by omega)]; exact hy1, hy2⟩
  | rows cs =>
    simp only [Cont.set] at hs
    cases hcc : cs[c]? with
    | none => simp [hcc] at hs
    | some col =>
      simp only [hcc] at hs
      cases hc : col.set r v with
      | none => simp [hc] at hs
      | some p =>
        obtain ⟨col', b'⟩ := p
        simp only [hc, Option.some.injEq, Prod.mk.injEq] at hs
        obtain ⟨rfl, rfl⟩ := hs
        obtain ⟨g1, g2⟩ := Col.at_set hc
        have hlt : c < cs.length := (List.getElem?_eq_some_iff.1 hcc).1
        have hsc : v.scalar = true := Col.set_scalar hc
        refine ⟨fun r' c' a ha => ?_, by simp [Cont.width], hsc, by simpa [Cont.width] using hlt⟩
        simp only [Cont.at] at ha
        by_cases ec : c' = c
        · subst ec
          rw [List.getElem?_set_self hlt] at ha
          simp only [Option.some.injEq] at ha
          refine ⟨by simpa [Cont.width] using hlt, ?_⟩
          by_cases e : r' = r
          · subst e
            obtain ⟨rfl, _⟩ := g2 a ha
            exact ⟨x, by simpa [Cont.width] using h1, hv⟩
          · obtain ⟨_, y, hy1, hy2⟩ := hr r' c' a (by simp only [Cont.at, hcc]; rw [g1 r' a e ha])
            refine ⟨y, ?_, hy2⟩
            simp only [Cont.width, List.length_set] at h2 hy1 ⊢
            rw [h2 _ (fun he => e (rowcol hlt hlt he).1)]; exact hy1
        · rw [List.getElem?_set_ne (Ne.symm ec)] at ha
          obtain ⟨hw, y, hy1, hy2⟩ := hr r' c' a (by simp only [Cont.at]; exact ha)
          refine ⟨by simpa [Cont.width] using hw, y, ?_, hy2⟩
          simp only [Cont.width, List.length_set] at h2 hy1 hw ⊢
          rw [h2 _ (fun he => ec (rowcol hw hlt he).2)]; exact hy1
  | obj q => cases q with
    | typed t l =>
      cases c <;> simp only [Cont.set] at hs <;> try cases hs
      cases hb : Nat.blt r l.length <;> simp only [hb] at hs <;> try cases hs
      cases hsc : v.scalar <;> simp only [hsc] at hs <;> try cases hs
      have hlt : r < l.length := by simpa [Nat.blt_eq] using hb
      refine ⟨fun r' c' a ha => ?_, rfl, rfl, by simp [Cont.width]⟩
      cases c' <;> simp only [Cont.at] at ha <;> try cases ha
      refine ⟨by simp [Cont.width], ?_⟩
      by_cases e : r' = r
      · subst e
        simp [hlt] at ha
        subst ha
        exact ⟨x, by simpa [Cont.width] using h1, hv⟩
      · rw [List.getElem?_set_ne (Ne.symm e)] at ha
        obtain ⟨_, y, hy1, hy2⟩ := hr r' 0 a (by simp only [Cont.at]; exact ha)
        exact ⟨y, by
          simp only [Cont.width] at h2 hy1 ⊢
          rw [h2 _ (by omega)]; exact hy1, hy2⟩
    | glob g c0 => cases c <;> (simp only [Cont.set] at hs; cases hs)
    | loop st pe tm ps asg body => cases c <;> (simp only [Cont.set] at hs; cases hs)
    | trow t s0 => cases c <;> (simp only [Cont.set] at hs; cases hs)
    | mpo fk fv es => cases c <;> (simp only [Cont.set] at hs; cases hs)
    | mit tm n0 seen => cases c <;> (simp only [Cont.set] at hs; cases hs)
    | nest cs0 fo0 => cases c <;> (simp only [Cont.set] at hs; cases hs)
/-- No object of another kind. -/
def Cont.plain : Cont → Bool
  | .obj _ => false
  | _ => true
theorem Cont.plain_ne {k : Cont} (h : k.plain = true) (q : QObj) : k ≠ .obj q := fun e => by rw [e] at h; cases h
/-- No slice is in its cells. -/
def QObj.hollow : QObj → Bool
  | .nest cs _ => !nestB cs
  | _ => false
theorem Cont.plain_void {k : Cont} (h : k.plain = true) (q : QObj) (e : k = .obj q) : q.hollow = true := absurd e (Cont.plain_ne h q)
theorem Cont.set_obj {k k' : Cont} {r c : Nat} {v : AV} {b : Bool} (h : k.set r c v = some (k', b)) (q : QObj) (hq : k' = .obj q) : ∃ t l, k = .obj (.typed t l) ∧ q = .typed t (l.set r v) := by
  subst hq
  cases k with
  | cells l =>
    cases c <;> simp only [Cont.set] at h <;> try cases h
    split at h
    · split at h
      · cases h
      · cases h
    · cases h
  | col cl =>
    cases c <;> simp only [Cont.set] at h <;> try cases h
    split at h
    · cases h
    · cases h
  | rows cs =>
    simp only [Cont.set] at h
    split at h
    · split at h
      · cases h
      · cases h
    · cases h
  | obj q0 => cases q0 with
    | typed t l =>
      cases c <;> simp only [Cont.set] at h <;> try cases h
      split at h
      · split at h
        · cases h; exact ⟨t, l, rfl, rfl⟩
        · cases h
      · cases h
    | glob g c0 => cases c <;> (simp only [Cont.set] at h; cases h)
    | loop st pe tm ps asg body => cases c <;> (simp only [Cont.set] at h; cases h)
    | trow t s0 => cases c <;> (simp only [Cont.set] at h; cases h)
    | mpo fk fv es => cases c <;> (simp only [Cont.set] at h; cases h)
    | mit tm n0 seen => cases c <;> (simp only [Cont.set] at h; cases h)
    | nest cs0 fo0 => cases c <;> (simp only [Cont.set] at h; cases h)
def stOf : Nat → LoopState
  | 0 => .ready
  | _ => .done
/-- A number, or some, as the value that they are. -/
def expl : Nat → List Int → List Int
  | 0, _ => []
  | n + 1, l => l.headD 0 :: expl n l.tail
def mkV : Nat → List Int → Value
  | 0, l => .int .i64 (l.getD 0 0)
  | n + 1, l => .agg ((expl (n + 1) l).map (Value.int .i64)).toArray
/-- A map's entries, stamped in order. -/
def entL (fk fv : Nat) : Nat → List (List Int × List Int) → List MapEntry
  | _, [] => []
  | j, (k, v) :: r => { key := mkV fk k, val := mkV fv v, born := j } :: entL fk fv (j + 1) r
def QObj.ok (ρ : Rho) (nx : Nat) (i : LI) (w : World) : QObj → Prop
  | .glob g c => i.b = g ∧ i.o = 0 ∧ ∃ cs t fz, w.heap[g]? = some (.cells cs t fz) ∧ ∀ (j : Nat) v, c.at j = (.val v, true) → cs[j]? = some v
  | .loop st pe tm ps asg body => ∃ l : Loop, w.heap[i.b]? = some (.loop l) ∧ l.state = stOf st ∧ l.pending = pe ∧ AV.rels ρ nx tm l.tmps.toList ∧ l.params = ps.toArray ∧ l.assign = asg ∧ l.body = body
  | .typed t l => i.o = 0 ∧ w.shape? i.b = some (t, l.length)
  | .trow t s => i.o = 0 ∧ ∃ cur, w.heap[i.b]? = some (.cells cur t (0, 0)) ∧ i.cap ≤ cur.size ∧ ∀ (j : Nat) (x : UInt8), s.data.toList[j]? = some x → cur[j]? = some (Value.int .u8 x.toNat)
  | .mpo fk fv es => w.heap[i.b]? = some (.map (entL fk fv 0 es).toArray es.length)
  | .mit tm n seen => i.o = 0 ∧ ∃ bm : Nat, w.heap[i.b]? = some (.mapIter (some bm) n seen.reverse.toArray n) ∧ AV.rels ρ nx tm [.map (some bm)]
  | .nest cs _ => nestB cs = true → (∀ g, i.tg.testBit g = true → ∃ cur e fz, w.heap[g]? = some (.cells cur e fz)) ∧ ∀ (c : Nat) (nc : NCol) (j : Nat), cs[c]? = some nc → j < nc.len → ∃ A cp, w.cell? ⟨i.b, i.o + (j * cs.length + c), none⟩ = some (.slice A (nc.at j).1 cp) ∧ (nc.at j).1 ≤ cp ∧
      (0 < (nc.at j).1 → ∃ b o, A = some ⟨b, o, none⟩ ∧ i.tg.testBit b = true ∧ ∀ (ρ' : Rho) (nx' : Nat), (nc.at j).2.rel ρ' nx' (fun t => w.cell? ⟨b, o + t, none⟩))
/-- Slices in cells. -/
def QObj.nested : QObj → Bool
  | .nest cs _ => nestB cs
  | _ => false
theorem QObj.hollow_flat {q : QObj} (h : q.hollow = true) : q.nested = false := by
  cases q with
  | nest cs fo => simpa [QObj.hollow, QObj.nested] using h
  | _ => rfl
theorem QObj.ok.ext {ρ ρ' : Rho} {nx nx' : Nat} {i : LI} {w w' : World} {q : QObj} (hq : q.ok ρ nx i w) (h : ∀ l, l < nx → ρ' l = ρ l) (hn : nx ≤ nx') (hb : w'.heap[i.b]? = w.heap[i.b]?) (hs : w.heap.size ≤ w'.heap.size) (ht : q.nested = true → ∀ g, i.tg.testBit g = true → w'.heap[g]? = w.heap[g]?) : q.ok ρ' nx' i w' := by
  cases q with
  | glob g vs =>
    obtain ⟨rfl, h0, c, t, fz, h1, h2⟩ := hq
    exact ⟨rfl, h0, c, t, fz, by rw [hb]; exact h1, h2⟩
  | loop st pe tm ps asg body =>
    obtain ⟨l, h1, h2, h3, h4, h5⟩ := hq
    exact ⟨l, by rw [hb]; exact h1, h2, h3, AV.rels.ext h hn _ _ h4, h5⟩
  | typed t l =>
    refine ⟨hq.1, ?_⟩
    have := hq.2
    simp only [World.shape?] at this ⊢
    rw [hb]; exact this
  | trow t s =>
    obtain ⟨h0, cur, h1, h2⟩ := hq
    exact ⟨h0, cur, by rw [hb]; exact h1, h2⟩
  | mpo fk fv es =>
    show w'.heap[i.b]? = _
    rw [hb]; exact hq
  | mit tm n seen =>
    obtain ⟨h0, bm, h1, h2⟩ := hq
    exact ⟨h0, bm, by rw [hb]; exact h1, AV.rels.ext h hn _ _ h2⟩
  | nest cs fo =>
    intro hne
    obtain ⟨h0, h1⟩ := hq hne
    have ht := ht hne
    refine ⟨fun g hg => by rw [ht g hg]; exact h0 g hg, fun c nc j hc hj => ?_⟩
    obtain ⟨A, cp, h2, h3, h4⟩ := h1 c nc j hc hj
    refine ⟨A, cp, ?_, h3, fun hn => ?_⟩
    · simp only [World.cell?] at h2 ⊢
      rw [hb]; exact h2
    · obtain ⟨b, o, e, h5, h6⟩ := h4 hn
      refine ⟨b, o, e, h5, fun ρ' nx' => ?_⟩
      have hb' := ht b h5
      refine (h6 ρ' nx').ext (fun _ _ => rfl) (Nat.le_refl _) fun t x hx => ?_
      simp only [World.cell?] at hx ⊢
      rw [hb']; exact hx
end Go.Proofs.Ytmjpikkloofakaa

namespace Go.Proofs.Ytmjpikkloofakaa
open Go Go.RowKit

structure ABlk where
  wr : Bool
  op : Bool
  cont : Cont
structure MS where
  bl : List (Nat × Option ABlk)
  nx : Nat
def look : List (Nat × Option ABlk) → Nat → Option ABlk
  | [], _ => none
  | (l, b) :: r, k => match Nat.beq l k with
    | true => b
    | false => look r k
def upd : List (Nat × Option ABlk) → Nat → Option ABlk → List (Nat × Option ABlk)
  | [], k, b => [(k, b)]
  | (l, b') :: r, k, b => match Nat.beq l k with
    | true => (l, b) :: r
    | false => (l, b') :: upd r k b
theorem nbeq_ne {l k : Nat} (h : ¬ l = k) : Nat.beq l k = false := by
  cases hb : Nat.beq l k with
  | true => exact absurd (Nat.eq_of_beq_eq_true hb) h
  | false => rfl
theorem look_cons (l : Nat) (b : Option ABlk) (r : List (Nat × Option ABlk)) (k : Nat) : look ((l, b) :: r) k = if l = k then b else look r k := by
  simp only [look]
  by_cases h : l = k
  · subst h; simp
  · rw [if_neg h]
    rw [nbeq_ne h]
theorem look_upd (k k' : Nat) (b : Option ABlk) : ∀ s : List (Nat × Option ABlk), look (upd s k b) k' = if k = k' then b else look s k'
  | [] => by simp only [upd, look_cons]
  | (l, b') :: r => by
    simp only [upd]
    by_cases h : l = k
    · subst h
      simp only [Nat.beq_refl, look_cons]
      by_cases h' : l = k'
      · rw [if_pos h', if_pos h']
      · rw [if_neg h', if_neg h', if_neg h']
    · rw [nbeq_ne h]
      simp only [look_cons, look_upd k k' b r]
      by_cases h1 : l = k'
      · rw [if_pos h1, if_pos h1, if_neg (by omega)]
      · rw [if_neg h1, if_neg h1]

/-- Of such a block nothing is said. -/
def ABlk.void (b : ABlk) : Prop := b.wr = false ∧ b.op = false ∧ (∀ q, b.cont = .obj q → q.hollow = true) ∧ ∀ r c a, b.cont.at r c ≠ some (a, true)
theorem wr_not_void {b : ABlk} (h : b.wr = true) : ¬ b.void := fun hv => by rw [hv.1] at h; cases h
/-- Its cells hold slices. -/
def Cont.nested : Cont → Bool
  | .obj q => q.nested
  | _ => false
theorem Cont.nested_obj {k : Cont} {q : QObj} (h : k = .obj q) (hn : q.nested = true) : k.nested = true := by subst h; exact hn
theorem Cont.nested_plain {k : Cont} (h : k.plain = true) : k.nested = false := by
  cases k with
  | obj q => cases h
  | _ => rfl
/-- What is said of a block is so. -/
structure ABlk.ok (ρ : Rho) (nx : Nat) (b : ABlk) (i : LI) (w : World) : Prop where
  lt : i.b < w.heap.size ∨ b.void
  rel : b.cont.rel ρ nx (fun j => w.cell? ⟨i.b, i.o + j, none⟩)
  free : b.wr = true → ∀ j, w.frozen? ⟨i.b, j, none⟩ = false
  room : b.op = true → b.wr = true ∧ i.o = 0 ∧ ∃ cur e, w.heap[i.b]? = some (.cells cur e (0, 0)) ∧ i.cap ≤ cur.size
  obj : ∀ q, b.cont = .obj q → q.ok ρ nx i w
structure MRel (ρ : Rho) (m : MS) (w : World) : Prop where
  blk : ∀ l b, look m.bl l = some b → l < m.nx ∧ b.ok ρ m.nx (ρ l) w
  apart : ∀ l b l' b', look m.bl l = some b → look m.bl l' = some b' → b.wr = true → l' ≠ l → ¬ b'.void → (ρ l').b ≠ (ρ l).b
  deep : ∀ l b l' b', look m.bl l = some b → look m.bl l' = some b' → b.wr = true → b'.cont.nested = true → (ρ l').tg.testBit (ρ l).b = false
/-- The blocks that may be written. -/
def Wr (ρ : Rho) (m : MS) (g : Nat) : Prop := ∃ l b, look m.bl l = some b ∧ b.wr = true ∧ (ρ l).b = g
/-- Nothing was printed; no less was drawn. -/
def OutLe (w w' : World) : Prop := w'.output = w.output ∧ w.drawn ≤ w'.drawn
theorem OutLe.trans {a b c : World} (h : OutLe b c) (h' : OutLe a b) : OutLe a c := ⟨h.1.trans h'.1, Nat.le_trans h'.2 h.2⟩
structure Moves (B : Nat) (ρ ρ' : Rho) (m m' : MS) (w w' : World) : Prop where
  ext : ∀ l, l < B → ρ' l = ρ l
  nx : B ≤ m'.nx
  os : w'.os = w.os
  tape : w'.tape = w.tape
  output : OutLe w w'
  size : w.heap.size ≤ w'.heap.size
  keep : ∀ g, g < w.heap.size → ¬ Wr ρ m g → w'.heap[g]? = w.heap[g]?
  fresh : ∀ g, Wr ρ' m' g → Wr ρ m g ∨ w.heap.size ≤ g
section
variable {B : Nat} {ρ ρ' ρ'' : Rho} {m m' m'' : MS} {w w' w'' : World}
theorem Moves.refl (h : B ≤ m.nx) : Moves B ρ ρ m m w w := ⟨fun _ _ => rfl, h, rfl, rfl, ⟨rfl, Nat.le_refl _⟩, Nat.le_refl _, fun _ _ _ => rfl, fun _ h => .inl h⟩
theorem Moves.trans (h : Moves B ρ ρ' m m' w w') (h' : Moves B ρ' ρ'' m' m'' w' w'') : Moves B ρ ρ'' m m'' w w'' where
  ext l hl := (h'.ext l hl).trans (h.ext l hl)
  nx := h'.nx
  os := h'.os.trans h.os
  tape := h'.tape.trans h.tape
  output := h'.output.trans h.output
  size := Nat.le_trans h.size h'.size
  keep g hg hn := by
    rw [h'.keep g (Nat.lt_of_lt_of_le hg h.size) (fun hw => by rcases h.fresh g hw with h1 | h1 <;> first | exact hn h1 | omega), h.keep g hg hn]
  fresh g hg := by
    rcases h'.fresh g hg with h1 | h1
    · rcases h.fresh g h1 with h2 | h2
      · exact .inl h2
      · exact .inr h2
    · exact .inr (Nat.le_trans h.size h1)
theorem Moves.base {B' : Nat} (h : Moves B ρ ρ' m m' w w') (hb : B' ≤ B) : Moves B' ρ ρ' m m' w w' :=
  ⟨fun l hl => h.ext l (by omega), by have := h.nx; omega, h.os, h.tape, h.output, h.size, h.keep, h.fresh⟩
theorem Moves.drew (h : B ≤ m.nx) : Moves B ρ ρ m m w { w with drawn := w.drawn + 1 } := ⟨fun _ _ => rfl, h, rfl, rfl, ⟨rfl, Nat.le_succ _⟩, Nat.le_refl _, fun _ _ _ => rfl, fun _ h => .inl h⟩
theorem ABlk.ok.drew {nx : Nat} {b : ABlk} {i : LI} (h : b.ok ρ nx i w) : b.ok ρ nx i { w with drawn := w.drawn + 1 } := ⟨h.lt, h.rel, h.free, h.room, fun q hq => (h.obj q hq).ext (fun _ _ => rfl) (Nat.le_refl _) rfl (Nat.le_refl _) (fun _ _ _ => rfl)⟩
theorem MRel.drew (h : MRel ρ m w) : MRel ρ m { w with drawn := w.drawn + 1 } := ⟨fun l b hl => ⟨(h.blk l b hl).1, (h.blk l b hl).2.drew⟩, h.apart, h.deep⟩
theorem ABlk.ok.ext {nx nx' : Nat} {b : ABlk} {i : LI} (h : b.ok ρ nx i w) (hρ : ∀ l, l < nx → ρ' l = ρ l) (hn : nx ≤ nx') (hs : w.heap.size ≤ w'.heap.size) (hb : w'.heap[i.b]? = w.heap[i.b]?) (ht : b.cont.nested = true → ∀ g, i.tg.testBit g = true → w'.heap[g]? = w.heap[g]?) : b.ok ρ' nx' i w' where
  lt := h.lt.imp (fun h => Nat.lt_of_lt_of_le h hs) id
  rel := h.rel.ext hρ hn fun j x hx => by
    have hx : w.cell? ⟨i.b, i.o + j, none⟩ = some x := hx
    show w'.cell? _ = _
    simp only [World.cell?] at hx ⊢
    rw [hb]; exact hx
  free hw j := by
    have := h.free hw j
    simp only [World.frozen?] at this ⊢
    rw [hb]; exact this
  room ho := by rw [hb]; exact h.room ho
  obj q hq := (h.obj q hq).ext hρ hn hb hs fun hq' => ht (Cont.nested_obj hq hq')
/-- Where a block's cells point are cells. -/
theorem ABlk.ok.tcell {nx : Nat} {b : ABlk} {i : LI} (h : b.ok ρ nx i w) (hn : b.cont.nested = true) : ∀ g, i.tg.testBit g = true → ∃ cur e fz, w.heap[g]? = some (.cells cur e fz) := by
  unfold Cont.nested at hn
  split at hn
  · rename_i q e
    have := h.obj q e
    cases q with
    | nest cs fo => exact (this hn).1
    | _ => cases hn
  · cases hn
theorem ABlk.ok.tlt {nx : Nat} {b : ABlk} {i : LI} (h : b.ok ρ nx i w) (hn : b.cont.nested = true) : ∀ g, i.tg.testBit g = true → g < w.heap.size := fun g hg => by
  obtain ⟨cur, e, fz, h1⟩ := h.tcell hn g hg
  exact (Array.getElem?_eq_some_iff.1 h1).1
theorem ABlk.ok.any {nx : Nat} {b : ABlk} {i : LI} (h : b.void) (w : World) : b.ok ρ nx i w where
  lt := .inr h
  rel r c a ha := absurd ha (h.2.2.2 r c a)
  free hw := by rw [h.1] at hw; cases hw
  room ho := by rw [h.2.1] at ho; cases ho
  obj q hq := by
    have := h.2.2.1 q hq
    cases q with
    | nest cs fo => exact fun hne => by simp [QObj.hollow, hne] at this
    | _ => cases this
/-- Fewer names. -/
theorem MRel.less (h : MRel ρ m w) (hn : m.nx ≤ m'.nx) (hl : ∀ l b, look m'.bl l = some b → look m.bl l = some b) : MRel ρ m' w :=
  ⟨fun l b hb => ⟨by have := (h.blk l b (hl l b hb)).1; omega, (h.blk l b (hl l b hb)).2.ext (fun _ _ => rfl) hn (Nat.le_refl _) rfl (fun _ _ _ => rfl)⟩, (fun l b l' b' h1 h2 => h.apart l b l' b' (hl l b h1) (hl l' b' h2)), fun l b l' b' h1 h2 => h.deep l b l' b' (hl l b h1) (hl l' b' h2)⟩
/-- What a call on fewer names leaves, with the others again. -/
theorem cell_setCell (w : World) (g o : Nat) (x : Value) (y : Value) (hy : w.cell? ⟨g, o, none⟩ = some y) (g' o' : Nat) : (w.setCell ⟨g, o, none⟩ x).cell? ⟨g', o', none⟩ = if g' = g ∧ o' = o then some x else w.cell? ⟨g', o', none⟩ := by
  simp only [World.cell?, World.setCell, Array.getElem?_modify] at hy ⊢
  by_cases hg : g = g'
  · subst hg
    cases hh : w.heap[g]? with
    | none => simp [hh] at hy
    | some ob =>
      cases ob <;> simp [hh] at hy ⊢
      rename_i c e f
      by_cases ho : o = o'
      · subst ho
        have : o < c.size := (Array.getElem?_eq_some_iff.1 hy).1
        simp [this]
      · rw [if_neg (by omega), Array.getElem?_setIfInBounds_ne ho]
  · rw [if_neg hg, if_neg (by omega)]
theorem frozen_setCell (w : World) (g o : Nat) (x : Value) (g' o' : Nat) : (w.setCell ⟨g, o, none⟩ x).frozen? ⟨g', o', none⟩ = w.frozen? ⟨g', o', none⟩ := by
  simp only [World.frozen?, World.setCell, Array.getElem?_modify]
  by_cases hg : g = g'
  · subst hg
    rw [if_pos rfl]
    cases hh : w.heap[g]? with
    | none => rfl
    | some ob => cases ob <;> rfl
  · rw [if_neg hg]
theorem shape_setCell (w : World) (g o : Nat) (x : Value) (g' : Nat) : (w.setCell ⟨g, o, none⟩ x).shape? g' = w.shape? g' := by
  simp only [World.shape?, World.setCell, Array.getElem?_modify]
  by_cases hg : g = g'
  · subst hg
    rw [if_pos rfl]
    cases hh : w.heap[g]? with
    | none => rfl
    | some ob => cases ob <;> simp
  · rw [if_neg hg]

/-- The place of a cell. -/
def LI.at (i : LI) (j : Nat) : Addr := ⟨i.b, i.o + j, none⟩
theorem add_none (b o n : Nat) : (⟨b, o, none⟩ : Addr).add n = ⟨b, o + n, none⟩ := by
  unfold Addr.add; split <;> simp_all

/-- A store of one cell. -/
theorem MRel.store {l : Nat} {b : ABlk} {k' : Cont} {r c : Nat} {v : AV} {x y : Value} (h : MRel ρ m w) (hl : look m.bl l = some b) (hw : b.wr = true) (hs : b.cont.set r c v = some (k', true)) (hv : AV.rel ρ m.nx v x)
    (hy : w.cell? ⟨(ρ l).b, (ρ l).o + (r * b.cont.width + c), none⟩ = some y) :
    MRel ρ ⟨upd m.bl l (some ⟨b.wr, b.op, k'⟩), m.nx⟩ (w.setCell ⟨(ρ l).b, (ρ l).o + (r * b.cont.width + c), none⟩ x) ∧
    Moves m.nx ρ ρ m ⟨upd m.bl l (some ⟨b.wr, b.op, k'⟩), m.nx⟩ w (w.setCell ⟨(ρ l).b, (ρ l).o + (r * b.cont.width + c), none⟩ x) ∧ k'.width = b.cont.width := by
  obtain ⟨hlt, hok⟩ := h.blk l b hl
  have hset := hok.rel.set (x := x) (cell' := fun j => (w.setCell ⟨(ρ l).b, (ρ l).o + (r * b.cont.width + c), none⟩ x).cell? ⟨(ρ l).b, (ρ l).o + j, none⟩) hs hv
    (by simp only [cell_setCell _ _ _ _ _ hy]; simp) (fun i hi => by simp only [cell_setCell _ _ _ _ _ hy]; rw [if_neg (by omega)])
  have hsz : (w.setCell ⟨(ρ l).b, (ρ l).o + (r * b.cont.width + c), none⟩ x).heap.size = w.heap.size := by simp [World.setCell]
  have hns : ∀ k0 : Cont, k0 = k' → k0.nested = true → b.cont.nested = true := fun k0 e hn => by
    rw [e] at hn
    cases hk : k' with
    | obj q =>
      obtain ⟨t0, l0, e1, rfl⟩ := Cont.set_obj hs q hk
      rw [hk] at hn; cases hn
    | _ => rw [hk] at hn; cases hn
  refine ⟨⟨fun l' b' hl' => ?_, fun l1 b1 l2 b2 h1 h2 hw1 hne hnv => ?_, fun l1 b1 l2 b2 h1 h2 hw1 hn2 => ?_⟩, ⟨fun _ _ => rfl, Nat.le_refl _, rfl, rfl, ⟨rfl, Nat.le_refl _⟩, by rw [hsz]; exact Nat.le_refl _, fun g hg hn => ?_, fun g hg => .inl ?_⟩, hset.2.1⟩
  · simp only [look_upd] at hl'
    by_cases e : l = l'
    · subst e
      simp only [if_true, Option.some.injEq] at hl'
      subst hl'
      refine ⟨hlt, ⟨.inl (by rw [hsz]; exact hok.lt.resolve_right (wr_not_void hw)), hset.1, fun _ j => by rw [frozen_setCell]; exact hok.free hw j, fun ho => ?_, fun q hq => ?_⟩⟩
      rotate_left
      · obtain ⟨t0, l0, e1, rfl⟩ := Cont.set_obj hs q hq
        obtain ⟨h0, h1⟩ := hok.obj _ e1
        exact ⟨h0, by rw [shape_setCell, h1, List.length_set]⟩
      obtain ⟨r1, r2, cur, e, r3, r4⟩ := hok.room ho
      refine ⟨hw, r2, cur.setIfInBounds ((ρ l).o + (r * b.cont.width + c)) x, e, ?_, by simpa using r4⟩
      simp [World.setCell, Array.getElem?_modify, r3]
    · rw [if_neg e] at hl'
      obtain ⟨h1, h2⟩ := h.blk l' b' hl'
      refine ⟨h1, ?_⟩
      by_cases hv : b'.void
      · exact ABlk.ok.any hv _
      · have hne := h.apart l b l' b' hl hl' hw (Ne.symm e) hv
        exact h2.ext (fun _ _ => rfl) (Nat.le_refl _) (by rw [hsz]; exact Nat.le_refl _) (Below.heap_setCell _ _ _ _ hne) fun hn' g hg => Below.heap_setCell _ _ _ _ (fun e' => by rw [e', h.deep l b l' b' hl hl' hw hn'] at hg; cases hg)
  · simp only [look_upd] at h1 h2
    by_cases e1 : l = l1
    · subst e1
      rw [if_neg (Ne.symm hne)] at h2
      exact h.apart l b l2 b2 hl h2 hw hne hnv
    · rw [if_neg e1] at h1
      by_cases e2 : l = l2
      · subst e2
        exact h.apart l1 b1 l b h1 hl hw1 hne (wr_not_void hw)
      · rw [if_neg e2] at h2
        exact h.apart l1 b1 l2 b2 h1 h2 hw1 hne hnv
  · simp only [look_upd] at h1 h2
    have g1 : ∃ b0, look m.bl l1 = some b0 ∧ b0.wr = true := by
      by_cases e1 : l = l1
      · subst e1; exact ⟨b, hl, hw⟩
      · rw [if_neg e1] at h1; exact ⟨b1, h1, hw1⟩
    have g2 : ∃ b0, look m.bl l2 = some b0 ∧ b0.cont.nested = true := by
      by_cases e2 : l = l2
      · subst e2
        rw [if_pos rfl] at h2
        cases h2
        exact ⟨b, hl, hns _ rfl hn2⟩
      · rw [if_neg e2] at h2; exact ⟨b2, h2, hn2⟩
    obtain ⟨a1, p1, p2⟩ := g1
    obtain ⟨a2, q1, q2⟩ := g2
    exact h.deep l1 a1 l2 a2 p1 q1 p2 q2
  · exact Below.heap_setCell _ _ _ _ (fun e => hn ⟨l, b, hl, hw, e.symm⟩)
  · obtain ⟨l1, b1, h1, h2, h3⟩ := hg
    simp only [look_upd] at h1
    by_cases e1 : l = l1
    · subst e1; exact ⟨l, b, hl, hw, h3⟩
    · rw [if_neg e1] at h1; exact ⟨l1, b1, h1, h2, h3⟩
/-- A new name for a new block. -/
def Rho.new (ρ : Rho) (n : Nat) (i : LI) : Rho := fun l => if l = n then i else ρ l
theorem MRel.allocG {b : ABlk} {cs : Array Value} {t : TypeId} {cap tg : Nat} (hapt : b.cont.nested = true → ∀ g, Wr ρ m g → tg.testBit g = false) (hself : b.cont.nested = true → tg.testBit w.heap.size = false) (h : MRel ρ m w) (hr : b.cont.rel ρ m.nx (fun j => cs[j]?)) (hw : b.op = true → b.wr = true ∧ cap ≤ cs.size) (hp : ∀ q, b.cont = .obj q → q.ok ρ m.nx ⟨w.heap.size, 0, cap, tg⟩ (w.alloc (.cells cs t))) :
    MRel (ρ.new m.nx ⟨w.heap.size, 0, cap, tg⟩) ⟨(m.nx, some b) :: m.bl, m.nx + 1⟩ (w.alloc (.cells cs t)) ∧
    Moves m.nx ρ (ρ.new m.nx ⟨w.heap.size, 0, cap, tg⟩) m ⟨(m.nx, some b) :: m.bl, m.nx + 1⟩ w (w.alloc (.cells cs t)) := by
  have hext : ∀ l, l < m.nx → (ρ.new m.nx ⟨w.heap.size, 0, cap, tg⟩) l = ρ l := fun l hl => by unfold Rho.new; rw [if_neg (by omega)]
  have hnew : (w.alloc (.cells cs t)).heap[w.heap.size]? = some (.cells cs t) := by show (w.heap.push _)[w.heap.size]? = _; simp
  have hsz : (w.alloc (.cells cs t)).heap.size = w.heap.size + 1 := by show (w.heap.push _).size = _; simp
  refine ⟨⟨fun l b' hl => ?_, fun l1 b1 l2 b2 h1 h2 hw1 hne hnv => ?_, fun l1 b1 l2 b2 h1 h2 hw1 hn2 => ?_⟩, ⟨hext, Nat.le_succ _, rfl, rfl, ⟨rfl, Nat.le_refl _⟩, by rw [hsz]; omega, fun g hg _ => Below.heap_alloc _ _ _ hg, fun g hg => ?_⟩⟩
  · simp only [look_cons] at hl
    by_cases e : m.nx = l
    · subst e
      simp only [if_true, Option.some.injEq] at hl
      subst hl
      refine ⟨Nat.lt_succ_self _, ⟨.inl (by simp only [Rho.new, if_true]; omega), ?_, fun _ j => ?_, fun ho => ⟨(hw ho).1, ?_⟩, fun q hq => ?_⟩⟩
      rotate_right
      · simp only [Rho.new, if_true]
        exact (hp q hq).ext hext (Nat.le_succ _) rfl (Nat.le_refl _) (fun _ _ _ => rfl)
      · refine hr.ext hext (Nat.le_succ _) fun j x hx => ?_
        simp only [Rho.new, if_true, World.cell?, hnew]
        simpa using hx
      · simp only [Rho.new, if_true, World.frozen?, hnew]
        simp
      · simp only [Rho.new, if_true]
        exact ⟨trivial, cs, t, hnew, (hw ho).2⟩
    · rw [if_neg e] at hl
      obtain ⟨h1, h2⟩ := h.blk l b' hl
      rw [hext l h1]
      refine ⟨Nat.lt_succ_of_lt h1, ?_⟩
      rcases h2.lt with hlt | hv
      · exact h2.ext hext (Nat.le_succ _) (by rw [hsz]; omega) (Below.heap_alloc _ _ _ hlt) fun hn' g hg => Below.heap_alloc _ _ _ (h2.tlt hn' g hg)
      · exact ABlk.ok.any hv _
  · simp only [look_cons] at h1 h2
    by_cases e1 : m.nx = l1
    · rw [if_neg (by omega)] at h2
      obtain ⟨g1, g2⟩ := h.blk l2 b2 h2
      rw [hext l2 g1]
      have := g2.lt.resolve_right hnv
      subst e1
      simp only [Rho.new, if_true]
      omega
    · rw [if_neg e1] at h1
      obtain ⟨g1, g2⟩ := h.blk l1 b1 h1
      rw [hext l1 g1]
      by_cases e2 : m.nx = l2
      · have := g2.lt.resolve_right (wr_not_void hw1)
        subst e2
        simp only [Rho.new, if_true]
        omega
      · rw [if_neg e2] at h2
        rw [hext l2 (h.blk l2 b2 h2).1]
        exact h.apart l1 b1 l2 b2 h1 h2 hw1 hne hnv
  · simp only [look_cons] at h1 h2
    by_cases e2 : m.nx = l2
    · subst e2
      rw [if_pos rfl] at h2
      cases h2
      by_cases e1 : m.nx = l1
      · subst e1
        simp only [Rho.new, if_true]
        exact hself hn2
      · rw [if_neg e1] at h1
        rw [hext l1 (h.blk l1 b1 h1).1]
        simp only [Rho.new, if_true]
        exact hapt hn2 _ ⟨l1, b1, h1, hw1, rfl⟩
    · rw [if_neg e2] at h2
      have g2 := h.blk l2 b2 h2
      rw [hext l2 g2.1]
      by_cases e1 : m.nx = l1
      · subst e1
        simp only [Rho.new, if_true]
        cases hb : (ρ l2).tg.testBit w.heap.size with
        | false => rfl
        | true => have := g2.2.tlt hn2 _ hb; omega
      · rw [if_neg e1] at h1
        rw [hext l1 (h.blk l1 b1 h1).1]
        exact h.deep l1 b1 l2 b2 h1 h2 hw1 hn2
  · obtain ⟨l, b', h1, h2, h3⟩ := hg
    simp only [look_cons] at h1
    by_cases e : m.nx = l
    · subst e
      simp only [Rho.new, if_true] at h3
      exact .inr (by omega)
    · rw [if_neg e] at h1
      rw [hext l (h.blk l b' h1).1] at h3
      exact .inl ⟨l, b', h1, h2, h3⟩
theorem MRel.allocT {b : ABlk} {cs : Array Value} {t : TypeId} {cap : Nat} (h : MRel ρ m w) (hr : b.cont.rel ρ m.nx (fun j => cs[j]?)) (hw : b.op = true → b.wr = true ∧ cap ≤ cs.size) (hp : ∀ q, b.cont = .obj q → q.ok ρ m.nx ⟨w.heap.size, 0, cap, 0⟩ (w.alloc (.cells cs t))) :
    MRel (ρ.new m.nx ⟨w.heap.size, 0, cap, 0⟩) ⟨(m.nx, some b) :: m.bl, m.nx + 1⟩ (w.alloc (.cells cs t)) ∧
    Moves m.nx ρ (ρ.new m.nx ⟨w.heap.size, 0, cap, 0⟩) m ⟨(m.nx, some b) :: m.bl, m.nx + 1⟩ w (w.alloc (.cells cs t)) := MRel.allocG (fun _ g _ => Nat.zero_testBit g) (fun _ => Nat.zero_testBit _) h hr hw hp
theorem MRel.alloc {b : ABlk} {cs : Array Value} {t : TypeId} {cap : Nat} (h : MRel ρ m w) (hr : b.cont.rel ρ m.nx (fun j => cs[j]?)) (hw : b.op = true → b.wr = true ∧ cap ≤ cs.size) (hp : b.cont.plain = true) :
    MRel (ρ.new m.nx ⟨w.heap.size, 0, cap, 0⟩) ⟨(m.nx, some b) :: m.bl, m.nx + 1⟩ (w.alloc (.cells cs t)) ∧
    Moves m.nx ρ (ρ.new m.nx ⟨w.heap.size, 0, cap, 0⟩) m ⟨(m.nx, some b) :: m.bl, m.nx + 1⟩ w (w.alloc (.cells cs t)) := h.allocT hr hw fun q hq => absurd hq (Cont.plain_ne hp q)
end
end Go.Proofs.Ytmjpikkloofakaa

namespace Go.Proofs.Ytmjpikkloofakaa
open Go Go.RowKit

theorem all_cons {b : Bool} {l : List Bool} (h : (b :: l).all id = true) : b = true ∧ l.all id = true := by simpa using h
theorem all_app {l l' : List Bool} (h : (l ++ l').all id = true) : l.all id = true ∧ l'.all id = true := by simpa using h

/-- A comparison or a sum of two numbers. -/
def shiftA (op : BinOp) (k : IntKind) (x y : Int) : Option AV := match op with
  | .shl => some (.val (.int k (k.wrap (x * 2 ^ (min y.toNat k.bits)))))
  | .shr => some (.val (.int k (x.fdiv (2 ^ (min y.toNat k.bits)))))
  | _ => none
def intA (op : BinOp) (k : IntKind) (x y : Int) : Option (AV × Bool) := match op with
  | .add => some (.val (.int k (k.wrap (x + y))), false)
  | .sub => some (.val (.int k (k.wrap (x - y))), false)
  | .mul => some (.val (.int k (k.wrap (x * y))), false)
  | .quo => some (.val (.int k (k.wrap (x.tdiv y))), true)
  | .rem => some (.val (.int k (x.tmod y)), true)
  | .and => some (.val (.int k (bits .and k x y)), false)
  | .or => some (.val (.int k (bits .or k x y)), false)
  | .xor => some (.val (.int k (bits .xor k x y)), false)
  | .andNot => some (.val (.int k (bits .andNot k x y)), false)
  | .eql => some (.val (.bool (x == y)), false)
  | .neq => some (.val (.bool (x != y)), false)
  | .lss => some (.val (.bool (decide (x < y))), false)
  | .leq => some (.val (.bool (decide (x ≤ y))), false)
  | .gtr => some (.val (.bool (decide (x > y))), false)
  | .geq => some (.val (.bool (decide (x ≥ y))), false)
  | _ => none
/-- Two texts, one behind the other. -/
def catB (x y : ByteArray) : ByteArray := ⟨⟨x.data.toList ++ y.data.toList⟩⟩
def lenB (x : ByteArray) : Nat := x.data.toList.length
theorem catB_eq (x y : ByteArray) : catB x y = x ++ y := by
  apply ByteArray.ext
  apply Array.ext'
  simp [catB, ByteArray.data_append]
theorem lenB_eq (x : ByteArray) : lenB x = x.size := by
  show x.data.toList.length = x.data.size
  simp
def strA (op : BinOp) (x y : ByteArray) : Option (AV × List Bool) := match op with
  | .add => some (.val (.string (catB x y)), [Nat.ble (lenB x + lenB y) 9223372036854775807])
  | .eql => some (.val (.bool (x.toList == y.toList)), [])
  | .neq => some (.val (.bool (!(x.toList == y.toList))), [])
  | .lss => some (.val (.bool (Op.bytesLess x.toList y.toList)), [])
  | .leq => some (.val (.bool (Op.bytesLess x.toList y.toList || x.toList == y.toList)), [])
  | .gtr => some (.val (.bool (!(Op.bytesLess x.toList y.toList || x.toList == y.toList))), [])
  | .geq => some (.val (.bool (!Op.bytesLess x.toList y.toList)), [])
  | _ => none
def isShift : BinOp → Bool
  | .shl => true
  | .shr => true
  | _ => false
def isEq : BinOp → Bool
  | .eql => true
  | .neq => true
  | _ => false

/-- A part of a struct or an array, by value. -/
def aggT (P : Program) (t : TypeId) : Option Bool := match P.underlying t with
  | some (.struct _) => some true
  | some (.array _ _) => some true
  | some _ => some false
  | none => none
def partA (P : Program) (t : TypeId) (cs : List AV) (off : Nat) : Option AV := match aggT P t with
  | some true => match P.info? t with
    | some i => some (.agg ((cs.drop off).take i.size))
    | none => none
  | some false => cs[off]?
  | none => none

def strip : AV → AV
  | .gd _ _ _ v => v
  | v => v

/-- Are two values the same? By their type. -/
def eqFs (P : Program) (eq : TypeId → AV → AV → Option Bool) : List Field → List AV → List AV → Option Bool
  | [], _, _ => some true
  | f :: fs, xs, ys => match decide (f.name = "_") with
    | true => none
    | false => match partA P f.type xs f.offset, partA P f.type ys f.offset with
      | some a, some b => match eq f.type a b with
        | some r => match eqFs P eq fs xs ys with
          | some r' => some (r && r')
          | none => none
        | none => none
      | _, _ => none
def eqEs (P : Program) (eq : TypeId → AV → AV → Option Bool) (e : TypeId) (s : Nat) : Nat → Nat → List AV → List AV → Option Bool
  | 0, _, _, _ => some true
  | n + 1, i, xs, ys => match partA P e xs (i * s), partA P e ys (i * s) with
      | some a, some b => match eq e a b with
        | some r => match eqEs P eq e s n (i + 1) xs ys with
          | some r' => some (r && r')
          | none => none
        | none => none
      | _, _ => none
def eqA (P : Program) : Nat → TypeId → AV → AV → Option Bool
  | 0, _, _, _ => none
  | d + 1, t, x, y => match P.underlying t with
    | some .bool => match x, y with
      | .val (.bool a), .val (.bool b) => some (a == b)
      | _, _ => none
    | some (.int _) => match x, y with
      | .val (.int k a), .val (.int k' b) => match decide (k = k') with
        | true => some (a == b)
        | false => none
      | _, _ => none
    | some .string => match x, y with
      | .val (.string a), .val (.string b) => some (a == b)
      | _, _ => none
    | some (.pointer _) => match x, y with
      | .val (.pointer none), .val (.pointer none) => some true
      | .val (.pointer none), .ptr .. => some false
      | .ptr .., .val (.pointer none) => some false
      | _, _ => none
    | some (.slice _) => match x, y with
      | .val (.slice none _ _), .val (.slice none _ _) => some true
      | .val (.slice none _ _), .sl true .. => some false
      | .sl true .., .val (.slice none _ _) => some false
      | _, _ => none
    | some (.func ..) => match x, y with
      | .val .nilFunc, .val .nilFunc => some true
      | .clo .., .val .nilFunc => some false
      | .val .nilFunc, .clo .. => some false
      | _, _ => none
    | some (.struct fs) => match x, y with
      | .agg xs, .agg ys => match P.stoodInHeld t with
        | false => eqFs P (eqA P d) fs.toList xs ys
        | true => none
      | _, _ => none
    | some (.array n e) => match x, y with
      | .agg xs, .agg ys => match P.info? e with
        | some i => eqEs P (eqA P d) e i.size n 0 xs ys
        | none => none
      | _, _ => none
    | _ => none
section
variable {P : Program} {ρ : Rho} {nx : Nat} {w : World}
theorem rels_drop : ∀ {as : List AV} {xs : List Value} (n : Nat), AV.rels ρ nx as xs → AV.rels ρ nx (as.drop n) (xs.drop n)
  | as, xs, 0, h => by simpa using h
  | [], xs, n + 1, h => by simp only [AV.rels] at h; subst h; simp [AV.rels]
  | a :: as, xs, n + 1, h => by
    simp only [AV.rels] at h
    obtain ⟨y, ys, rfl, _, h2⟩ := h
    simpa using rels_drop n h2
theorem rels_take : ∀ {as : List AV} {xs : List Value} (n : Nat), AV.rels ρ nx as xs → AV.rels ρ nx (as.take n) (xs.take n)
  | as, xs, 0, h => by simp [AV.rels]
  | [], xs, n + 1, h => by simp only [AV.rels] at h; subst h; simp [AV.rels]
  | a :: as, xs, n + 1, h => by
    simp only [AV.rels] at h
    obtain ⟨y, ys, rfl, h1, h2⟩ := h
    simp only [List.take_succ_cons, AV.rels]
    exact ⟨y, _, rfl, h1, rels_take n h2⟩
theorem run_underlying {t : TypeId} {d : TypeDesc} (h : P.underlying t = some d) (w : World) : (underlying t).run P w = .ok d w := by
  simp [Go.underlying, h]
theorem run_typeInfo {t : TypeId} {i : TypeInfo} (h : P.info? t = some i) (w : World) : (typeInfo t).run P w = .ok i w := by
  simp [Go.typeInfo, h]
theorem run_sizeOf {t : TypeId} {i : TypeInfo} (h : P.info? t = some i) (w : World) : (sizeOf t).run P w = .ok i.size w := by
  simp [Go.sizeOf, run_typeInfo h]
theorem run_isAgg {t : TypeId} {b : Bool} (h : aggT P t = some b) (w : World) : (isAgg t).run P w = .ok b w := by
  unfold aggT at h
  cases hu : P.underlying t with
  | none => rw [hu] at h; cases h
  | some d =>
    rw [hu] at h
    simp only [Go.isAgg, Sem.run_bind, run_underlying hu, Result.andThen_ok]
    cases d <;> simp at h <;> subst h <;> rfl
theorem part_ok {t : TypeId} {cs : List AV} {xs : List Value} {off : Nat} {a : AV} (h : partA P t cs off = some a) (hr : AV.rels ρ nx cs xs) (w : World) : ∃ x, (part t xs.toArray off).run P w = .ok x w ∧ AV.rel ρ nx a x := by
  unfold partA at h
  cases ha : aggT P t with
  | none => rw [ha] at h; cases h
  | some b =>
    rw [ha] at h
    simp only [Go.part, Sem.run_bind, run_isAgg ha, Result.andThen_ok]
    cases b with
    | true =>
      simp only at h
      cases hi : P.info? t with
      | none => rw [hi] at h; cases h
      | some i =>
        rw [hi] at h
        simp only [Option.some.injEq] at h
        subst h
        simp only [if_true, Sem.run_bind, run_sizeOf hi, Result.andThen_ok, Sem.run_pure]
        refine ⟨_, rfl, ?_⟩
        simp only [AV.rel]
        refine ⟨(xs.drop off).take i.size, ?_, rels_take _ (rels_drop _ hr)⟩
        congr 1
        apply Array.ext'
        simp [List.drop_take]
    | false =>
      simp only at h
      obtain ⟨x, hx, hrx⟩ := hr.at_ h
      refine ⟨x, ?_, hrx⟩
      simp [hx]
theorem eqA_ok : ∀ (d : Nat) (t : TypeId) (x y : AV) (r : Bool) (x' y' : Value) (D : Nat), eqA P d t x y = some r → AV.rel ρ nx x x' → AV.rel ρ nx y y' → d ≤ D → (Op.equalIn D t x' y').run P w = .ok r w
  | 0, t, x, y, r, x', y', D, h, _, _, _ => by simp [eqA] at h
  | d + 1, t, x, y, r, x', y', 0, h, _, _, hd => by omega
  | d + 1, t, x, y, r, x', y', D + 1, h, hx, hy, hd => by
    have IH := fun t x y r x' y' h hx hy => eqA_ok d t x y r x' y' D h hx hy (by omega)
    simp only [eqA] at h
    cases hu : P.underlying t with
    | none => rw [hu] at h; cases h
    | some ty =>
      rw [hu] at h
      cases ty with
      | struct fs =>
        cases x <;> (try dsimp only at h) <;> try cases h
        cases y <;> (try dsimp only at h) <;> try cases h
        rename_i xs ys
        cases hs : P.stoodInHeld t with
        | true => rw [hs] at h; cases h
        | false =>
          rw [hs] at h
          dsimp only at h
          simp only [AV.rel] at hx hy
          obtain ⟨xs', rfl, hxs⟩ := hx
          obtain ⟨ys', rfl, hys⟩ := hy
          simp only [Op.equalIn, Sem.run_bind, run_underlying hu, Result.andThen_ok, run_program, hs, Bool.false_eq_true, if_false]
          rw [← Array.forIn_toList]
          generalize fs.toList = L at h ⊢
          induction L generalizing r with
          | nil => simp only [eqFs, Option.some.injEq] at h; subst h; simp
          | cons f L ih =>
            simp only [eqFs] at h
            by_cases hn : f.name = "_"
            · simp [hn] at h
            · simp only [hn, decide_false] at h
              cases h1 : partA P f.type xs f.offset with
              | none => rw [h1] at h; cases h
              | some a =>
                cases h2 : partA P f.type ys f.offset with
                | none => rw [h1, h2] at h; cases h
                | some b =>
                  rw [h1, h2] at h
                  dsimp only at h
                  cases h3 : eqA P d f.type a b with
                  | none => rw [h3] at h; cases h
                  | some q =>
                    rw [h3] at h
                    dsimp only at h
                    cases h4 : eqFs P (eqA P d) L xs ys with
                    | none => rw [h4] at h; cases h
                    | some q' =>
                      rw [h4] at h
                      simp only [Option.some.injEq] at h
                      subst h
                      obtain ⟨a', p1, r1⟩ := part_ok h1 hxs w
                      obtain ⟨b', p2, r2⟩ := part_ok h2 hys w
                      have p3 := IH _ _ _ _ _ _ h3 r1 r2
                      simp only [List.forIn_cons, Sem.run_bind, hn, ne_eq, not_false_eq_true, if_true, Result.andThen_ok, p1, p2, p3, Sem.run_pure]
                      cases q with
                      | true =>
                        have := ih q' h4
                        simpa using this
                      | false => simp
      | array n e =>
        cases x <;> (try dsimp only at h) <;> try cases h
        cases y <;> (try dsimp only at h) <;> try cases h
        rename_i xs ys
        simp only [AV.rel] at hx hy
        obtain ⟨xs', rfl, hxs⟩ := hx
        obtain ⟨ys', rfl, hys⟩ := hy
        cases hi : P.info? e with
        | none => rw [hi] at h; cases h
        | some i =>
          rw [hi] at h
          dsimp only at h
          simp only [Op.equalIn, Sem.run_bind, run_underlying hu, Result.andThen_ok, run_sizeOf hi]
          simp only [Std.Legacy.Range.forIn_eq_forIn_range', Std.Legacy.Range.size, Nat.sub_zero, Nat.add_one_sub_one, Nat.div_one]
          generalize 0 = j at h ⊢
          clear hu
          induction n generalizing j r with
          | zero => simp only [eqEs, Option.some.injEq] at h; subst h; simp
          | succ n ih =>
            simp only [eqEs] at h
            cases h1 : partA P e xs (j * i.size) with
            | none => rw [h1] at h; cases h
            | some a =>
              cases h2 : partA P e ys (j * i.size) with
              | none => rw [h1, h2] at h; cases h
              | some b =>
                rw [h1, h2] at h
                dsimp only at h
                cases h3 : eqA P d e a b with
                | none => rw [h3] at h; cases h
                | some q =>
                  rw [h3] at h
                  dsimp only at h
                  cases h4 : eqEs P (eqA P d) e i.size n (j + 1) xs ys with
                  | none => rw [h4] at h; cases h
                  | some q' =>
                    rw [h4] at h
                    simp only [Option.some.injEq] at h
                    subst h
                    obtain ⟨a', p1, r1⟩ := part_ok h1 hxs w
                    obtain ⟨b', p2, r2⟩ := part_ok h2 hys w
                    have p3 := IH _ _ _ _ _ _ h3 r1 r2
                    simp only [List.range'_succ, List.forIn_cons, Sem.run_bind, Result.andThen_ok, p1, p2, p3, Sem.run_pure]
                    cases q with
                    | true =>
                      have := ih q' (j + 1) h4
                      simpa [run_sizeOf hi, p1, p2, p3] using this
                    | false => simp [run_sizeOf hi, p1, p2, p3]
      | func ps rs vr =>
        dsimp only at h
        split at h
        · cases h
          simp only [AV.rel] at hx hy
          subst hx hy
          simp [Op.equalIn, run_underlying hu]
        · cases h
          simp only [AV.rel] at hx hy
          obtain ⟨_, _, rfl, _⟩ := hx
          subst hy
          simp [Op.equalIn, run_underlying hu]
        · cases h
          simp only [AV.rel] at hx hy
          obtain ⟨_, _, rfl, _⟩ := hy
          subst hx
          simp [Op.equalIn, run_underlying hu]
        · cases h
      | bool =>
        cases x <;> (try dsimp only at h) <;> try cases h
        rename_i u
        cases u <;> (try dsimp only at h) <;> try cases h
        cases y <;> (try dsimp only at h) <;> try cases h
        rename_i u
        cases u <;> (try dsimp only at h) <;> try cases h
        simp only [AV.rel] at hx hy
        subst hx hy
        simp [Op.equalIn, run_underlying hu]
      | int k =>
        cases x <;> (try dsimp only at h) <;> try cases h
        rename_i u
        cases u <;> (try dsimp only at h) <;> try cases h
        cases y <;> (try dsimp only at h) <;> try cases h
        rename_i u
        cases u <;> (try dsimp only at h) <;> try cases h
        rename_i k1 a k2 b
        by_cases hk : k1 = k2
        · simp [hk] at h
          simp only [AV.rel] at hx hy
          subst hx hy h
          simp [Op.equalIn, run_underlying hu, hk]
        · simp [hk] at h
      | string =>
        cases x <;> (try dsimp only at h) <;> try cases h
        rename_i u
        cases u <;> (try dsimp only at h) <;> try cases h
        cases y <;> (try dsimp only at h) <;> try cases h
        rename_i u
        cases u <;> (try dsimp only at h) <;> try cases h
        simp only [AV.rel] at hx hy
        subst hx hy
        simp [Op.equalIn, run_underlying hu]
      | pointer e =>
        have Hx : x' = .pointer none ∨ ∃ a, x' = .pointer (some a) := by
          cases x <;> (try dsimp only at h) <;> try cases h
          · rename_i u
            cases u <;> (try dsimp only at h) <;> try cases h
            simp only [AV.rel] at hx
            rename_i q
            cases q
            · exact .inl hx
            · exact .inr ⟨_, hx⟩
          · simp only [AV.rel] at hx; exact .inr ⟨_, hx.2⟩
        cases x <;> (try dsimp only at h) <;> try cases h
        · rename_i u
          cases u <;> (try dsimp only at h) <;> try cases h
          rename_i q
          cases q <;> (try dsimp only at h) <;> try cases h
          simp only [AV.rel] at hx
          subst hx
          cases y <;> (try dsimp only at h) <;> try cases h
          · rename_i u
            cases u <;> (try dsimp only at h) <;> try cases h
            rename_i q
            cases q <;> (try dsimp only at h) <;> try cases h
            simp only [AV.rel] at hy
            subst hy
            simp [Op.equalIn, run_underlying hu]
          · simp only [AV.rel] at hy
            rw [hy.2]
            simp [Op.equalIn, run_underlying hu]
        · simp only [AV.rel] at hx
          rw [hx.2]
          cases y <;> (try dsimp only at h) <;> try cases h
          rename_i u
          cases u <;> (try dsimp only at h) <;> try cases h
          rename_i q
          cases q <;> (try dsimp only at h) <;> try cases h
          simp only [AV.rel] at hy
          subst hy
          simp [Op.equalIn, run_underlying hu]
      | slice e =>
        have F : ∀ {nn : Bool} {l w0 r s n : Nat} {cap : Option Nat} {z : Value}, nn = true → AV.rel ρ nx (.sl nn l w0 r s n cap) z → ∃ a c, z = .slice (some a) n c := fun hn hz => by
          simp only [AV.rel] at hz
          obtain ⟨_, A, c, e1, _, _, h2, _⟩ := hz
          obtain ⟨a, rfl⟩ := Option.isSome_iff_exists.1 (h2 hn)
          exact ⟨a, c, e1⟩
        dsimp only at h
        split at h
        · simp only [AV.rel] at hx hy
          subst hx hy
          cases h
          simp [Op.equalIn, run_underlying hu]
        · obtain ⟨a, c, rfl⟩ := F rfl hy
          simp only [AV.rel] at hx
          subst hx
          cases h
          simp [Op.equalIn, run_underlying hu]
        · obtain ⟨a, c, rfl⟩ := F rfl hx
          simp only [AV.rel] at hy
          subst hy
          cases h
          simp [Op.equalIn, run_underlying hu]
        · cases h
      | _ => cases h
end
end Go.Proofs.Ytmjpikkloofakaa

namespace Go.Proofs.Ytmjpikkloofakaa
open Go Go.RowKit

def constInt : Operand → Option Int
  | .const (.int _ n) => some n
  | _ => none
def ofConst : Value → AV
  | .agg cs => .agg (cs.toList.map AV.val)
  | v => .val v
def nonneg (y : Operand) (n : Int) : List Bool := match constInt y with
  | some (.ofNat _) => []
  | _ => [decide (0 ≤ n)]
def nonzero (y : Operand) (n : Int) : List Bool := match constInt y with
  | some (.ofNat (_ + 1)) => []
  | _ => [decide (n ≠ 0)]
def binA (P : Program) (op : BinOp) (t : TypeId) (yo : Operand) (a b : AV) : Option (AV × List Bool) := match a, b with
  | .val (.int k x), .val (.int k' y) => match isShift op with
    | true => match shiftA op k x y with
      | some v => some (v, nonneg yo y)
      | none => none
    | false => match decide (k = k') with
      | true => match intA op k x y with
        | some (v, d) => match d with
          | true => some (v, nonzero yo y)
          | false => some (v, [])
        | none => none
      | false => none
  | .val (.string x), .val (.string y) => strA op x y
  | a, b => match isEq op with
    | true => match P.eqGuardType P.depth t with
      | false => match eqA P 16 t a b with
        | some r => match op with
          | .eql => some (.val (.bool r), [])
          | _ => some (.val (.bool (!r)), [])
        | none => none
      | true => none
    | false => none
def unA (op : UnOp) (a : AV) : Option AV := match op, a with
  | .neg, .val (.int k n) => some (.val (.int k (k.wrap (0 - n))))
  | .xor, .val (.int k n) => some (.val (.int k (k.wrap (BitVec.ofInt k.bits (if k.signed then -1 else k.max) ^^^ BitVec.ofInt k.bits n).toNat)))
  | .not, .val (.bool b) => some (.val (.bool (!b)))
  | _, _ => none
def convA (P : Program) (src dst : TypeId) (a : AV) : Option AV := match P.underlying src, P.underlying dst, a with
  | some _, some (.int k), .val (.int _ n) => some (.val (.int k (k.wrap n)))
  | some _, some .string, .val (.string s) => some (.val (.string s))
  | _, _, _ => none
def fieldA (P : Program) (t : TypeId) (a : AV) (f : Nat) : Option AV := match P.underlying t, a with
  | some (.struct fs), .agg cs => match fs[f]? with
    | some fd => partA P fd.type cs fd.offset
    | none => none
  | _, _ => none
/-- A byte of a text. -/
def byteAt (s : ByteArray) (i : Nat) : Int := ((s.data.toList.getD i 0).toNat : Int)
def idxNat (i : Int) : Nat := i.toNat
def indexA (P : Program) (t : TypeId) (a i : AV) : Option (AV × List Bool) := match P.underlying t, a, i with
  | some .string, .val (.string s), .val (.int _ n) => some (.val (.int .u8 (byteAt s n.toNat)), [decide (0 ≤ n), decide (n.toNat < s.size)])
  | some (.array len e), .agg cs, .val (.int _ (.ofNat n)) => match Nat.blt n len with
    | true => match P.info? e with
      | some f => match partA P e cs (n * f.size) with
        | some v => some (v, [])
        | none => none
      | none => none
    | false => none
  | _, _, _ => none
/-- j cells on. -/
def bump (w r c j : Nat) : Nat × Nat := match Nat.beq w 1 with
  | true => (r + j, c)
  | false => (r, c + j)
def fieldAddrA (P : Program) (t : TypeId) (a : AV) (f : Nat) : Option AV := match P.underlying t, a with
  | some (.struct fs), .ptr l w r c => match fs[f]? with
    | some fd => match P.info? fd.type with
      | some i => match Nat.beq i.size 0 with
        | false => match bump w r c fd.offset with
          | (r', c') => some (.ptr l w r' c')
        | true => none
      | none => none
    | none => none
  | _, _ => none
def mulN (n s : Nat) : Nat := match Nat.beq s 1 with
  | true => n
  | false => n * s
/-- r and k, without a nought in front. -/
def addN (r k : Nat) : Nat := match Nat.beq r 0 with
  | true => k
  | false => r + k
theorem addN_eq (r k : Nat) : addN r k = r + k := by
  unfold addN
  split
  · rename_i h; rw [Nat.eq_of_beq_eq_true h]; omega
  · rfl
def indexAddrA (P : Program) (t : TypeId) (a i : AV) : Option (AV × List Bool) := match P.underlying t, a, i with
  | some (.slice e), .sl _ l w r s n _, .val (.int _ k) => match P.info? e with
    | some f => match Nat.beq f.size (s * w) with
      | true => some (.ptr l w (addN r (mulN k.toNat s)) 0, [decide (0 ≤ k), decide (k.toNat < n)])
      | false => none
    | none => none
  | some (.array len e), .ptr l w r c, .val (.int _ k) => match P.info? e with
    | some f => match Nat.beq w 1 with
      | true => some (.ptr l w (addN r (mulN k.toNat f.size)) c, [decide (0 ≤ k), decide (k.toNat < len)])
      | false => match Nat.beq w f.size with
        | true => some (.ptr l w (addN r k.toNat) c, [decide (0 ≤ k), decide (k.toNat < len)])
        | false => some (.ptr l w r (addN c (mulN k.toNat f.size)), [decide (0 ≤ k), decide (k.toNat < len)])
    | none => none
  | some (.array len e), .val (.pointer (some ⟨g, o, none⟩)), .val (.int _ k) => match P.info? e with
    | some f => some (.val (.pointer (some ⟨g, addN o (mulN k.toNat f.size), none⟩)), [decide (0 ≤ k), decide (k.toNat < len)])
    | none => none
  | _, _, _ => none
def loadN (k : Cont) (w r c : Nat) : Nat → Nat → Option (List AV × List Bool)
  | 0, _ => some ([], [])
  | n + 1, j => match bump w r c j with
    | (r', c') => match k.at r' c' with
      | some (a, b) => match loadN k w r c n (j + 1) with
        | some (as, bs) => match k with
          | .cells _ => some (a :: as, bs)
          | _ => some (a :: as, b :: bs)
        | none => none
      | none => none
/-- More than eleven cells, from the first one of a row of numbers: all of them. -/
def loadM (k : Cont) (w r c n : Nat) : Option (List AV × List Bool) := match Nat.blt 11 n with
  | false => loadN k w r c n 0
  | true => match k with
    | .col (.ints kd zs) => match Nat.beq r 0 with
      | true => match Nat.beq c 0 with
        | true => some ((expl n zs).map (fun z => .val (.int kd z)), [decide (zs.length = n)])
        | false => loadN k w r c n 0
      | false => loadN k w r c n 0
    | _ => loadN k w r c n 0
/-- A package variable's cells. -/
def globOf : List (Nat × Option ABlk) → Nat → Option (Nat × Col)
  | [], _ => none
  | (l, some ⟨_, _, .obj (.glob g c)⟩) :: r, k => match Nat.beq g k with
    | true => some (l, c)
    | false => globOf r k
  | _ :: r, k => globOf r k
def loadA (P : Program) (t : TypeId) (m : MS) (a : AV) : Option (AV × List Bool) := match a with
  | .val (.pointer (some ⟨g, o, none⟩)) => match globOf m.bl g with
    | some (l, _) => match look m.bl l with
      | some ⟨_, _, .obj (.glob g' c)⟩ => match Nat.beq g' g with
        | true => match aggT P t with
          | some false => match c.at o with
            | (a, b) => some (a, [b])
          | _ => none
        | false => none
      | _ => none
    | none => none
  | .ptr l w r c => match look m.bl l with
    | some b => match Nat.beq b.cont.width w with
      | true => match aggT P t with
        | some true => match P.info? t with
          | some i => match loadM b.cont w r c i.size with
            | some (as, bs) => some (.agg as, bs)
            | none => none
          | none => none
        | some false => match loadN b.cont w r c 1 0 with
          | some (a :: _, bs) => some (a, bs)
          | _ => none
        | none => none
      | false => none
    | none => none
  | _ => none
def bound (o : Option AV) (d : Nat) : Option Int := match o with
  | none => some d
  | some (.val (.int _ n)) => some n
  | _ => none
/-- A part of a text, of a slice, of an array. -/
def sliceA (P : Program) (t : TypeId) (a : AV) (lo hi : Option AV) : Option (AV × List Bool) := match P.underlying t, a with
    | some .string, .val (.string s) => match bound lo 0, bound hi s.size with
      | some l, some h => some (.val (.string (s.extract l.toNat h.toNat)), [decide (0 ≤ l), decide (l ≤ h), decide (h ≤ s.size)])
      | _, _ => none
    | some (.slice e), .sl nn l w r s n cap => match P.info? e with
      | some f => match Nat.beq f.size (s * w) with
        | true => match bound lo 0, bound hi n with
          | some b, some h => some (.sl nn l w (addN r (mulN b.toNat s)) s (h.toNat - b.toNat) (match cap with | some c => some (c - b.toNat) | none => none), [decide (0 ≤ b), decide (b ≤ h), decide (h ≤ n)])
          | _, _ => none
        | false => none
      | none => none
    | some (.slice e), .val (.slice none 0 0) => match P.info? e with
      | some _ => match bound lo 0, bound hi 0 with
        | some b, some h => some (.val (.slice none 0 0), [decide (b = 0), decide (h = 0)])
        | _, _ => none
      | none => none
    | some (.array n e), .ptr l w r c => match P.info? e with
      | some f => match Nat.beq c 0 with
        | true => match (match Nat.beq w 1 with | true => some f.size | false => match Nat.beq w f.size with | true => some 1 | false => none) with
          | some s => match bound lo 0, bound hi n with
            | some b, some h => some (.sl true l w (addN r (mulN b.toNat s)) s (h.toNat - b.toNat) (some (n - b.toNat)), [decide (0 ≤ b), decide (b ≤ h), decide (h ≤ n)])
            | _, _ => none
          | none => none
        | false => none
      | none => none
    | _, _ => none
def optRel (ρ : Rho) (nx : Nat) : Option AV → Option Value → Prop
  | none, o => o = none
  | some a, o => ∃ x, o = some x ∧ AV.rel ρ nx a x
section
variable {P : Program} {ρ : Rho} {m : MS} {w : World}
def PureOk (P : Program) (s : Sem Value) (ρ : Rho) (nx : Nat) (w : World) (v : AV) : Prop := ∃ x, s.run P w = .ok x w ∧ AV.rel ρ nx v x
theorem mkPure {nx : Nat} {s : Sem Value} {v : AV} (x : Value) (h : s.run P w = .ok x w) (hr : AV.rel ρ nx v x) : PureOk P s ρ nx w v := ⟨x, h, hr⟩
theorem nonneg_ok {y : Operand} {n : Int} (hc : ∀ k, constInt y = some k → n = k) (h : (nonneg y n).all id = true) : 0 ≤ n := by
  unfold nonneg at h
  split at h
  · rename_i k hk
    rw [hc _ hk]; simp
  · simpa using h
theorem nonzero_ok {y : Operand} {n : Int} (hc : ∀ k, constInt y = some k → n = k) (h : (nonzero y n).all id = true) : n ≠ 0 := by
  unfold nonzero at h
  split at h
  · rename_i k hk
    rw [hc _ hk]
    intro e
    have : (0 : Int) = Int.ofNat 0 := rfl
    rw [this] at e
    cases e
  · simpa using h
theorem eqA_shape {d : Nat} {t : TypeId} {a b : AV} {r : Bool} {x y : Value} {nx : Nat} (h : eqA P d t a b = some r) (hx : AV.rel ρ nx a x) (hy : AV.rel ρ nx b y) :
    (∃ p q, x = .bool p ∧ y = .bool q) ∨ (∃ k p k' q, a = .val (.int k p) ∧ b = .val (.int k' q)) ∨ (∃ p q, a = .val (.string p) ∧ b = .val (.string q)) ∨ (∃ p q, x = .pointer p ∧ y = .pointer q) ∨
    (∃ p n c q n' c', x = .slice p n c ∧ y = .slice q n' c') ∨ (∃ p q, x = .agg p ∧ y = .agg q) ∨ (x = .nilFunc ∧ y = .nilFunc) ∨ (∃ f p q, x = .func f p q ∧ y = .nilFunc) ∨ (∃ f p q, x = .nilFunc ∧ y = .func f p q) := by
  cases d with
  | zero => cases h
  | succ d =>
    simp only [eqA] at h
    cases hu : P.underlying t with
    | none => rw [hu] at h; cases h
    | some ty =>
      rw [hu] at h
      have fx : ∀ v, AV.rel ρ nx (.val v) x → x = v := fun v h => by simpa only [AV.rel] using h
      have fy : ∀ v, AV.rel ρ nx (.val v) y → y = v := fun v h => by simpa only [AV.rel] using h
      cases ty with
      | func ps rs vr =>
        dsimp only at h
        split at h
        · simp only [AV.rel] at hx hy
          subst hx hy
          exact .inr (.inr (.inr (.inr (.inr (.inr (.inl ⟨rfl, rfl⟩))))))
        · simp only [AV.rel] at hx hy
          obtain ⟨_, _, rfl, _⟩ := hx
          subst hy
          exact .inr (.inr (.inr (.inr (.inr (.inr (.inr (.inl ⟨_, _, _, rfl, rfl⟩)))))))
        · simp only [AV.rel] at hx hy
          obtain ⟨_, _, rfl, _⟩ := hy
          subst hx
          exact .inr (.inr (.inr (.inr (.inr (.inr (.inr (.inr ⟨_, _, _, rfl, rfl⟩)))))))
        · cases h
      | _ =>
      (try cases h) <;> dsimp only at h <;> split at h <;> (try cases h)
      all_goals (try simp only [AV.rel] at hx hy)
      all_goals (try (obtain ⟨_, _, _, hx, _⟩ := hx))
      all_goals (try (obtain ⟨_, _, _, hy, _⟩ := hy))
      all_goals (try (obtain ⟨_, hx, _⟩ := hx))
      all_goals (try (obtain ⟨_, hy, _⟩ := hy))
      all_goals (try (obtain ⟨_, hx⟩ := hx))
      all_goals (try (obtain ⟨_, hy⟩ := hy))
      all_goals (try subst hx)
      all_goals (try subst hy)
      all_goals first
        | exact .inl ⟨_, _, rfl, rfl⟩
        | exact .inr (.inl ⟨_, _, _, _, rfl, rfl⟩)
        | exact .inr (.inr (.inl ⟨_, _, rfl, rfl⟩))
        | exact .inr (.inr (.inr (.inl ⟨_, _, rfl, rfl⟩)))
        | exact .inr (.inr (.inr (.inr (.inl ⟨_, _, _, _, _, _, rfl, rfl⟩))))
        | exact .inr (.inr (.inr (.inr (.inr (.inl ⟨_, _, rfl, rfl⟩)))))
theorem binA_ok {op : BinOp} {t : TypeId} {xo yo : Operand} {a b : AV} {v : AV} {bs : List Bool} {x y : Value} {nx : Nat} (h : binA P op t yo a b = some (v, bs)) (hx : AV.rel ρ nx a x) (hy : AV.rel ρ nx b y) (hc : ∀ k, constInt yo = some k → ∃ q, y = .int q k) (hbs : bs.all id = true) :
    PureOk P (do eqGuard op t xo yo x y; binOp op t x y) ρ nx w v := by
  unfold binA at h
  split at h
  · rename_i k x k' y
    simp only [AV.rel] at hx hy
    subst hx hy
    have hg : ∀ w, (eqGuard op t xo yo (.int k x) (.int k' y)).run P w = .ok () w := fun w => by
      unfold eqGuard
      cases op <;> simp
    have hc' : ∀ n, constInt yo = some n → y = n := fun n hn => by obtain ⟨q, e⟩ := hc n hn; cases e; rfl
    cases hsh : isShift op with
    | true =>
      rw [hsh] at h
      dsimp only at h
      cases hv : shiftA op k x y with
      | none => rw [hv] at h; cases h
      | some v' =>
        rw [hv] at h
        simp only [Option.some.injEq, Prod.mk.injEq] at h
        obtain ⟨rfl, rfl⟩ := h
        have h0 := nonneg_ok hc' hbs
        unfold shiftA at hv
        cases op <;> simp only [isShift, Bool.false_eq_true] at hsh <;> dsimp only at hv <;> cases hv
        · exact mkPure _ (by simp [hg, binOp, Op.shift, show ¬ y < 0 by omega]; rfl) (by simp [AV.rel])
        · exact mkPure _ (by simp [hg, binOp, Op.shift, show ¬ y < 0 by omega]; rfl) (by simp [AV.rel])
    | false =>
      rw [hsh] at h
      dsimp only at h
      by_cases hk : k = k'
      · subst hk
        simp only [decide_true] at h
        cases hv : intA op k x y with
        | none => rw [hv] at h; cases h
        | some p =>
          obtain ⟨v', d⟩ := p
          rw [hv] at h
          unfold intA at hv
          cases op <;> simp only [isShift, Bool.true_eq_false] at hsh <;> dsimp only at hv <;> cases hv <;> dsimp only at h <;> simp only [Option.some.injEq, Prod.mk.injEq] at h <;> obtain ⟨rfl, rfl⟩ := h
          all_goals first
            | exact mkPure _ (by simp [hg, binOp, Op.intArith, intBits_and, intBits_or, intBits_xor, intBits_andNot, Op.intCmp]; rfl) (by simp [AV.rel])
            | exact mkPure _ (by simp only [Sem.run_bind, hg, Result.andThen_ok, binOp, intBits_and, intBits_or, intBits_xor, intBits_andNot]; rfl) (by simp [AV.rel])
            | (have h0 := nonzero_ok hc' hbs; exact mkPure _ (by simp [hg, binOp, Op.intDiv, h0]; rfl) (by simp [AV.rel]))
      · simp [hk] at h
  · rename_i x y
    simp only [AV.rel] at hx hy
    subst hx hy
    have hg : ∀ w, (eqGuard op t xo yo (.string x) (.string y)).run P w = .ok () w := fun w => by
      unfold eqGuard
      cases op <;> simp
    unfold strA at h
    cases op <;> dsimp only at h <;> simp only [Option.some.injEq, Prod.mk.injEq, reduceCtorEq] at h <;> obtain ⟨rfl, rfl⟩ := h
    all_goals (try simp only [lenB_eq, catB_eq] at hbs)
    all_goals (try rw [catB_eq])
    all_goals first
      | exact mkPure _ (by simp [hg, binOp, Op.stringOp]; rfl) (by simp [AV.rel])
      | (have h0 : ((x.size + y.size : Nat) : Int) ≤ IntKind.i64.max := by
          have h1 : x.size + y.size ≤ 9223372036854775807 := by simpa using hbs
          have e : IntKind.i64.max = 9223372036854775807 := by decide
          rw [e]
          omega
         exact mkPure _ (by simp only [Sem.run_bind, hg, Result.andThen_ok, binOp, Op.stringOp]; rw [if_neg (by omega)]; rfl) (by simp [AV.rel]))
  · rename_i h1 h2
    cases hq : isEq op with
    | false => rw [hq] at h; cases h
    | true =>
      rw [hq] at h
      dsimp only at h
      cases hG : P.eqGuardType P.depth t with
      | true => rw [hG] at h; cases h
      | false =>
        rw [hG] at h
        dsimp only at h
        cases hr : eqA P 16 t a b with
        | none => rw [hr] at h; cases h
        | some r =>
          rw [hr] at h
          have key := eqA_ok (w := w) 16 t a b r x y Op.maxDepth hr hx hy (by decide)
          have sh := eqA_shape hr hx hy
          have hne : ∀ x y : Value, (Op.equal t x y).run P w = .ok r w → (op = .eql ∧ v = .val (.bool r)) ∨ (op = .neq ∧ v = .val (.bool (!r))) := fun x y _ => by
            cases op <;> simp only [isEq, Bool.false_eq_true] at hq <;> dsimp only at h <;> cases h <;> simp
          have key' : (Op.equal t x y).run P w = .ok r w := key
          rcases sh with ⟨p, q, rfl, rfl⟩ | ⟨k, p, k', q, e1, e2⟩ | ⟨p, q, e1, e2⟩ | ⟨p, q, rfl, rfl⟩ | ⟨p, n, c, q, n', c', rfl, rfl⟩ | ⟨p, q, rfl, rfl⟩ | ⟨rfl, rfl⟩ | ⟨f, p, q, rfl, rfl⟩ | ⟨f, p, q, rfl, rfl⟩
          · rcases hne _ _ key' with ⟨rfl, rfl⟩ | ⟨rfl, rfl⟩ <;> exact mkPure _ (by simp [eqGuard, binOp, key']; rfl) (by simp [AV.rel])
          · exact absurd e2 (fun e2 => h1 _ _ _ _ e1 e2)
          · exact absurd e2 (fun e2 => h2 _ _ e1 e2)
          · rcases hne _ _ key' with ⟨rfl, rfl⟩ | ⟨rfl, rfl⟩ <;> exact mkPure _ (by simp [eqGuard, binOp, key']; rfl) (by simp [AV.rel])
          · rcases hne _ _ key' with ⟨rfl, rfl⟩ | ⟨rfl, rfl⟩ <;> exact mkPure _ (by simp [eqGuard, binOp, key']; rfl) (by simp [AV.rel])
          · rcases hne _ _ key' with ⟨rfl, rfl⟩ | ⟨rfl, rfl⟩ <;> exact mkPure _ (by simp [eqGuard, binOp, key', hG]; rfl) (by simp [AV.rel])
          · rcases hne _ _ key' with ⟨rfl, rfl⟩ | ⟨rfl, rfl⟩ <;> exact mkPure _ (by simp [eqGuard, binOp, key']; rfl) (by simp [AV.rel])
          · rcases hne _ _ key' with ⟨rfl, rfl⟩ | ⟨rfl, rfl⟩ <;> exact mkPure _ (by simp [eqGuard, binOp, key']; rfl) (by simp [AV.rel])
          · rcases hne _ _ key' with ⟨rfl, rfl⟩ | ⟨rfl, rfl⟩ <;> exact mkPure _ (by simp [eqGuard, binOp, key']; rfl) (by simp [AV.rel])
end
end Go.Proofs.Ytmjpikkloofakaa

namespace Go.Proofs.Ytmjpikkloofakaa
open Go Go.RowKit
section
variable {P : Program} {ρ : Rho} {m : MS} {w : World} {nx : Nat}
theorem unA_ok {op : UnOp} {a v : AV} {x : Value} (h : unA op a = some v) (hx : AV.rel ρ nx a x) : PureOk P (Op.unary op x) ρ nx w v := by
  unfold unA at h
  split at h
  all_goals first
    | (simp only [AV.rel] at hx; subst hx; cases h; exact mkPure _ (by simp [Op.unary, Op.intArith, Op.intBits]; rfl) (by simp [AV.rel]))
    | cases h
theorem convA_ok {src dst : TypeId} {a v : AV} {x : Value} (h : convA P src dst a = some v) (hx : AV.rel ρ nx a x) : PureOk P (convert src dst x) ρ nx w v := by
  unfold convA at h
  split at h
  · rename_i h1 h2
    simp only [AV.rel] at hx; subst hx; cases h
    exact mkPure _ (by simp [convert, run_underlying h1, run_underlying h2, Conv.intToInt]; rfl) (by simp [AV.rel])
  · rename_i h1 h2
    simp only [AV.rel] at hx; subst hx; cases h
    exact mkPure _ (by simp [convert, run_underlying h1, run_underlying h2]; rfl) (by simp [AV.rel])
  · cases h
theorem fieldA_ok {t : TypeId} {a v : AV} {x : Value} {f : Nat} (h : fieldA P t a f = some v) (hx : AV.rel ρ nx a x) : PureOk P (Instr.field t x f) ρ nx w v := by
  unfold fieldA at h
  split at h
  · rename_i fs cs hu
    simp only [AV.rel] at hx
    obtain ⟨xs, rfl, hxs⟩ := hx
    cases hf : fs[f]? with
    | none => rw [hf] at h; cases h
    | some fd =>
      rw [hf] at h
      obtain ⟨y, h1, h2⟩ := part_ok (w := w) h hxs
      exact mkPure y (by simp [Instr.field, run_underlying hu, hf, asAgg, h1]) h2
  · cases h
theorem indexA_ok {t : TypeId} {a i v : AV} {bs : List Bool} {x y : Value} (h : indexA P t a i = some (v, bs)) (hx : AV.rel ρ nx a x) (hy : AV.rel ρ nx i y) (hbs : bs.all id = true) : PureOk P (Instr.index t x y) ρ nx w v := by
  unfold indexA at h
  split at h
  · rename_i s k n hu
    simp only [AV.rel] at hx hy
    subst hx hy
    cases h
    simp at hbs
    obtain ⟨h0, h1⟩ := hbs
    refine mkPure (.int .u8 (byteAt s n.toNat)) ?_ (by simp [AV.rel])
    have hb : s[n.toNat]? = some (s[n.toNat]'h1) := getElem?_pos s n.toNat h1
    have e : byteAt s n.toNat = ((s[n.toNat]'h1).toNat : Int) := by
      unfold byteAt
      have : s.data.toList.getD n.toNat 0 = s[n.toNat]'h1 := by
        rw [List.getD_eq_getElem?_getD]
        have h2 : n.toNat < s.data.toList.length := by simpa using h1
        rw [List.getElem?_eq_getElem h2]
        rfl
      rw [this]
    simp only [Instr.index, asIntOf, Sem.run_bind, Sem.run_pure, Result.andThen_ok, run_underlying hu, h0, if_true, hb, e]
  · rename_i len e cs k n hu
    simp only [AV.rel] at hx hy
    subst hy
    obtain ⟨xs, rfl, hxs⟩ := hx
    cases hb : Nat.blt n len with
    | false => rw [hb] at h; cases h
    | true =>
      rw [hb] at h
      dsimp only at h
      cases hi : P.info? e with
      | none => rw [hi] at h; cases h
      | some f =>
        rw [hi] at h
        dsimp only at h
        cases hp : partA P e cs (n * f.size) with
        | none => rw [hp] at h; cases h
        | some v' =>
          rw [hp] at h
          cases h
          obtain ⟨y, h1, h2⟩ := part_ok (w := w) hp hxs
          have hlt : n < len := by simpa [Nat.blt_eq] using hb
          refine mkPure y ?_ h2
          simp [Instr.index, asIntOf, run_underlying hu, hlt, run_sizeOf hi, h1]
  · cases h
theorem bump_ok {w r c j : Nat} {r' c' : Nat} (h : bump w r c j = (r', c')) : r' * w + c' = r * w + c + j := by
  unfold bump at h
  split at h
  · rename_i hb
    cases h
    rw [Nat.eq_of_beq_eq_true hb]; omega
  · cases h; omega
theorem fieldAddrA_ok {t : TypeId} {a v : AV} {x : Value} {f : Nat} (h : fieldAddrA P t a f = some v) (hx : AV.rel ρ nx a x) : PureOk P (Instr.fieldAt t x f) ρ nx w v := by
  unfold fieldAddrA at h
  split at h
  · rename_i fs l wd r c hu
    simp only [AV.rel] at hx
    obtain ⟨hl, rfl⟩ := hx
    cases hf : fs[f]? with
    | none => rw [hf] at h; cases h
    | some fd =>
      rw [hf] at h
      dsimp only at h
      cases hi : P.info? fd.type with
      | none => rw [hi] at h; cases h
      | some i =>
        rw [hi] at h
        dsimp only at h
        cases hb : Nat.beq i.size 0 with
        | true => rw [hb] at h; cases h
        | false =>
          rw [hb] at h
          dsimp only at h
          cases hbm : bump wd r c fd.offset with
          | mk r' c' =>
            rw [hbm] at h
            cases h
            have hne : ¬ i.size = 0 := fun e => by rw [e] at hb; cases hb
            refine mkPure (.pointer (some ⟨(ρ l).b, (ρ l).o + (r' * wd + c'), none⟩)) ?_ (by simp only [AV.rel]; exact ⟨hl, trivial⟩)
            rw [bump_ok hbm]
            simp [Instr.fieldAt, run_underlying hu, hf, Instr.sureAddr, fieldPlace, run_sizeOf hi, hne, add_none, Nat.add_assoc]
  · cases h
theorem mulN_eq (n s : Nat) : mulN n s = n * s := by
  unfold mulN
  split
  · rename_i h; rw [Nat.eq_of_beq_eq_true h]; omega
  · rfl
theorem indexAddrA_ok {t : TypeId} {a i v : AV} {bs : List Bool} {x y : Value} (h : indexAddrA P t a i = some (v, bs)) (hx : AV.rel ρ nx a x) (hy : AV.rel ρ nx i y) (hbs : bs.all id = true) : PureOk P (Instr.indexAt t x y) ρ nx w v := by
  unfold indexAddrA at h
  split at h
  · rename_i e nn l wd r s n cap k kk hu
    simp only [AV.rel] at hx hy
    obtain ⟨hl, A, c, rfl, hnc, hA, _, _⟩ := hx
    subst hy
    cases hi : P.info? e with
    | none => rw [hi] at h; cases h
    | some f =>
      rw [hi] at h
      dsimp only at h
      cases hb : Nat.beq f.size (s * wd) with
      | false => rw [hb] at h; cases h
      | true =>
        rw [hb] at h
        cases h
        simp at hbs
        obtain ⟨h0, h1⟩ := hbs
        have hsz := Nat.eq_of_beq_eq_true hb
        rw [hA (by omega)]
        refine mkPure (.pointer (some ⟨(ρ l).b, (ρ l).o + (addN r (mulN kk.toNat s) * wd + 0), none⟩)) ?_ (by simp only [AV.rel]; exact ⟨hl, trivial⟩)
        have c1 : 0 ≤ kk ∧ kk < (n : Int) := ⟨h0, by omega⟩
        rw [mulN_eq, addN_eq]
        simp only [Instr.indexAt, asIntOf, Sem.run_bind, Sem.run_pure, Result.andThen_ok, run_underlying hu, if_pos c1, run_sizeOf hi, add_none, hsz]
        simp [Nat.add_mul, Nat.mul_assoc, Nat.add_assoc]
  · rename_i len e l wd r c k kk hu
    simp only [AV.rel] at hx hy
    obtain ⟨hl, rfl⟩ := hx
    subst hy
    cases hi : P.info? e with
    | none => rw [hi] at h; cases h
    | some f =>
      rw [hi] at h
      dsimp only at h
      have key : ∀ r' c', (0 ≤ kk ∧ kk.toNat < len) → r' * wd + c' = r * wd + c + kk.toNat * f.size → PureOk P (Instr.indexAt t (.pointer (some ⟨(ρ l).b, (ρ l).o + (r * wd + c), none⟩)) (.int k kk)) ρ nx w (.ptr l wd r' c') := fun r' c' hk he => by
        refine mkPure (.pointer (some ⟨(ρ l).b, (ρ l).o + (r' * wd + c'), none⟩)) ?_ (by simp only [AV.rel]; exact ⟨hl, trivial⟩)
        have c1 : 0 ≤ kk ∧ kk < (len : Int) := ⟨hk.1, by omega⟩
        rw [he]
        simp only [Instr.indexAt, asIntOf, Sem.run_bind, Sem.run_pure, Result.andThen_ok, run_underlying hu, Instr.sureAddr, if_pos c1, run_sizeOf hi, add_none]
        simp [Nat.add_assoc]
      cases hb : Nat.beq wd 1 with
      | true =>
        rw [hb] at h
        cases h
        simp at hbs
        have := Nat.eq_of_beq_eq_true hb
        subst this
        exact key _ _ hbs (by rw [mulN_eq, addN_eq]; omega)
      | false =>
        rw [hb] at h
        dsimp only at h
        cases hb2 : Nat.beq wd f.size with
        | true =>
          rw [hb2] at h
          cases h
          simp at hbs
          have := Nat.eq_of_beq_eq_true hb2
          exact key _ _ hbs (by rw [addN_eq, ← this, Nat.add_mul]; omega)
        | false =>
          rw [hb2] at h
          cases h
          simp at hbs
          exact key _ _ hbs (by rw [mulN_eq, addN_eq]; omega)
  · rename_i len e g o k kk hu
    simp only [AV.rel] at hx hy
    subst hx hy
    cases hi : P.info? e with
    | none => rw [hi] at h; cases h
    | some f =>
      rw [hi] at h
      cases h
      simp at hbs
      refine mkPure (.pointer (some ⟨g, addN o (mulN kk.toNat f.size), none⟩)) ?_ (by simp only [AV.rel])
      have c1 : 0 ≤ kk ∧ kk < (len : Int) := ⟨hbs.1, by omega⟩
      rw [addN_eq, mulN_eq]
      simp only [Instr.indexAt, asIntOf, Sem.run_bind, Sem.run_pure, Result.andThen_ok, run_underlying hu, Instr.sureAddr, if_pos c1, run_sizeOf hi, add_none]
  · cases h
theorem loadN_ok {k : Cont} {cell : Nat → Option Value} (hk : k.rel ρ nx cell) (r c : Nat) : ∀ (n j : Nat) (as : List AV) (bs : List Bool), loadN k k.width r c n j = some (as, bs) → bs.all id = true →
    ∃ xs : List Value, AV.rels ρ nx as xs ∧ xs.length = n ∧ ∀ i x, xs[i]? = some x → cell (r * k.width + c + (j + i)) = some x
  | 0, j, as, bs, h, _ => by
    simp only [loadN] at h
    cases h
    exact ⟨[], by simp [AV.rels], rfl, by simp⟩
  | n + 1, j, as, bs, h, hbs => by
    simp only [loadN] at h
    cases hb : bump k.width r c j with
    | mk r' c' =>
      rw [hb] at h
      dsimp only at h
      cases ha : k.at r' c' with
      | none => rw [ha] at h; cases h
      | some p =>
        obtain ⟨a, b⟩ := p
        rw [ha] at h
        dsimp only at h
        cases hr : loadN k k.width r c n (j + 1) with
        | none => rw [hr] at h; cases h
        | some q =>
          obtain ⟨as', bs'⟩ := q
          rw [hr] at h
          dsimp only at h
          have hfin : b = true ∧ as = a :: as' ∧ bs'.all id = true := by
            cases k with
            | cells l =>
              cases h
              refine ⟨?_, rfl, hbs⟩
              cases c' <;> simp only [Cont.at] at ha
              · split at ha
                · cases ha; rfl
                · cases ha
              · cases ha
            | col cl => cases h; exact ⟨(all_cons hbs).1, rfl, (all_cons hbs).2⟩
            | rows cs => cases h; exact ⟨(all_cons hbs).1, rfl, (all_cons hbs).2⟩
            | obj q => cases h; exact ⟨(all_cons hbs).1, rfl, (all_cons hbs).2⟩
          obtain ⟨rfl, rfl, hbs'⟩ := hfin
          obtain ⟨xs, h1, h2, h3⟩ := loadN_ok hk r c n (j + 1) as' bs' hr hbs'
          obtain ⟨_, x, hx1, hx2⟩ := hk r' c' a ha
          rw [bump_ok hb] at hx1
          refine ⟨x :: xs, by simp only [AV.rels]; exact ⟨x, xs, rfl, hx2, h1⟩, by simp [h2], fun i y hy => ?_⟩
          cases i with
          | zero => simp at hy; subst hy; simpa using hx1
          | succ i =>
            simp at hy
            have := h3 i y hy
            rwa [show j + 1 + i = j + (i + 1) by omega] at this
theorem expl_whole : ∀ {n : Nat} {l : List Int}, l.length = n → expl n l = l
  | 0, [], _ => rfl
  | n + 1, x :: l, h => by simp only [expl, List.headD_cons, List.tail_cons, expl_whole (n := n) (l := l) (by simpa using h)]
theorem bump_one (j : Nat) : bump 1 0 0 j = (j, 0) := by simp [bump]
theorem loadN_col (kd : IntKind) (zs : List Int) : ∀ (n j : Nat), j + n = zs.length → ∃ bs, loadN (.col (.ints kd zs)) 1 0 0 n j = some ((zs.drop j).map (fun z => .val (.int kd z)), bs) ∧ bs.all id = true
  | 0, j, h => ⟨[], by rw [List.drop_of_length_le (by omega)]; rfl, rfl⟩
  | n + 1, j, h => by
    obtain ⟨bs, g1, g2⟩ := loadN_col kd zs n (j + 1) (by omega)
    have hj : j < zs.length := by omega
    refine ⟨decide (j < zs.length) :: bs, ?_, by simp [hj, g2]⟩
    rw [List.drop_eq_getElem_cons hj, List.map_cons]
    simp only [loadN, bump_one, Cont.at, Col.at, g1]
    rw [List.getD_eq_getElem?_getD, List.getElem?_eq_getElem hj]
    rfl
theorem loadM_eq {k : Cont} {r c n : Nat} {as : List AV} {bs : List Bool} (h : loadM k k.width r c n = some (as, bs)) (hbs : bs.all id = true) : ∃ bs', loadN k k.width r c n 0 = some (as, bs') ∧ bs'.all id = true := by
  unfold loadM at h
  split at h
  · exact ⟨bs, h, hbs⟩
  · split at h
    · rename_i kd zs
      split at h
      · rename_i hr
        split at h
        · rename_i hc
          cases h
          have hl : zs.length = n := by simpa using hbs
          have hr := Nat.eq_of_beq_eq_true hr
          have hc := Nat.eq_of_beq_eq_true hc
          subst hr; subst hc
          obtain ⟨bs', g1, g2⟩ := loadN_col kd zs n 0 (by omega)
          rw [expl_whole hl]
          exact ⟨bs', g1, g2⟩
        · exact ⟨bs, h, hbs⟩
      · exact ⟨bs, h, hbs⟩
    · exact ⟨bs, h, hbs⟩
theorem loadA_ok {t : TypeId} {a v : AV} {bs : List Bool} {x : Value} (hm : MRel ρ m w) (h : loadA P t m a = some (v, bs)) (hx : AV.rel ρ m.nx a x) (hbs : bs.all id = true) : PureOk P (Instr.loadAt t x) ρ m.nx w v := by
  unfold loadA at h
  split at h
  · rename_i g o
    simp only [AV.rel] at hx
    subst hx
    split at h <;> try cases h
    rename_i l c0 _
    split at h <;> try cases h
    rename_i wr op g' c hl
    split at h <;> try cases h
    rename_i hgg
    have hgg := Nat.eq_of_beq_eq_true hgg
    subst hgg
    cases hag : aggT P t with
    | none => rw [hag] at h; cases h
    | some ag =>
    rw [hag] at h
    cases ag with
    | true => cases h
    | false =>
    dsimp only at h
    cases hco : c.at o with
    | mk a b =>
    rw [hco] at h
    cases h
    obtain ⟨hib, _, cs, ty, fz, hc, hat⟩ := (hm.blk l _ hl).2.obj _ rfl
    have hb : b = true := by simpa using hbs
    subst hb
    have hcv : ∃ u, a = .val u := by
      cases c <;> simp only [Col.at, Prod.mk.injEq] at hco <;> exact ⟨_, hco.1.symm⟩
    obtain ⟨u, rfl⟩ := hcv
    have hu := hco
    refine mkPure u ?_ (by simp only [AV.rel])
    have := hat o u hu
    simp [Instr.loadAt, Instr.sureAddr, loadVar, run_isAgg hag, World.cell?, hc, this]
  · rename_i l wd r c
    simp only [AV.rel] at hx
    obtain ⟨hl, rfl⟩ := hx
    cases hlk : look m.bl l with
    | none => rw [hlk] at h; cases h
    | some b =>
      rw [hlk] at h
      dsimp only at h
      have hok := (hm.blk l b hlk).2
      cases hwd : Nat.beq b.cont.width wd with
      | false => rw [hwd] at h; cases h
      | true =>
        rw [hwd] at h
        dsimp only at h
        have := Nat.eq_of_beq_eq_true hwd
        subst this
        cases hag : aggT P t with
        | none => rw [hag] at h; cases h
        | some g =>
          rw [hag] at h
          cases g with
          | true =>
            dsimp only at h
            cases hi : P.info? t with
            | none => rw [hi] at h; cases h
            | some i =>
              rw [hi] at h
              dsimp only at h
              cases hn : loadM b.cont b.cont.width r c i.size with
              | none => rw [hn] at h; cases h
              | some q =>
                obtain ⟨as, bs'⟩ := q
                rw [hn] at h
                cases h
                obtain ⟨bs2, hn2, hbs2⟩ := loadM_eq hn hbs
                obtain ⟨xs, h1, h2, h3⟩ := loadN_ok hok.rel r c _ _ _ _ hn2 hbs2
                refine mkPure (.agg xs.toArray) ?_ (by simp only [AV.rel]; exact ⟨xs, rfl, h1⟩)
                have := run_loadCells_list (P := P) w ⟨(ρ l).b, (ρ l).o + (r * b.cont.width + c), none⟩ xs (fun j v hv => by
                  rw [add_none]
                  have := h3 j v hv
                  simpa [Nat.add_assoc] using this)
                rw [h2] at this
                simp [Instr.loadAt, Instr.sureAddr, loadVar, run_isAgg hag, run_sizeOf hi, this]
          | false =>
            dsimp only at h
            cases hn : loadN b.cont b.cont.width r c 1 0 with
            | none => rw [hn] at h; cases h
            | some q =>
              obtain ⟨as, bs'⟩ := q
              rw [hn] at h
              cases as with
              | nil => cases h
              | cons a' as' =>
                cases h
                obtain ⟨xs, h1, h2, h3⟩ := loadN_ok hok.rel r c _ _ _ _ hn hbs
                simp only [AV.rels] at h1
                obtain ⟨y, ys, rfl, g1, g2⟩ := h1
                refine mkPure y ?_ g1
                have := h3 0 y rfl
                simp only [Nat.add_zero] at this
                simp [Instr.loadAt, Instr.sureAddr, loadVar, run_isAgg hag, this]
  · cases h
theorem bound_ok {o : Option AV} {d : Nat} {q : Int} {o' : Option Value} (h : bound o d = some q) (ho : optRel ρ nx o o') : (o' = none ∧ q = d) ∨ ∃ k, o' = some (.int k q) := by
  unfold bound at h
  split at h
  · cases h; exact .inl ⟨ho, rfl⟩
  · cases h
    obtain ⟨x, rfl, hx⟩ := ho
    simp only [AV.rel] at hx
    subst hx
    exact .inr ⟨_, rfl⟩
  · cases h
theorem sliceBounds_ok {b : Bool} {n c : Nat} {lo hi : Option AV} {lo' hi' : Option Value} {l q : Int} (hl : bound lo 0 = some l) (hh : bound hi n = some q) (hlo : optRel ρ nx lo lo') (hhi : optRel ρ nx hi hi')
    (b0 : 0 ≤ l) (b1 : l ≤ q) (b2 : q ≤ n) (hnc : n ≤ c) (w : World) : (Instr.sliceBounds b n c lo' hi' none).run P w = .ok (l.toNat, q.toNat, c) w := by
  have c1 : 0 ≤ q ∧ q ≤ (c : Int) := ⟨by omega, by omega⟩
  have c2 : 0 ≤ l ∧ l ≤ (q.toNat : Int) := ⟨b0, by omega⟩
  have c3 : (q.toNat : Int) = q := Int.toNat_of_nonneg (by omega)
  unfold Instr.sliceBounds
  rcases bound_ok hh hhi with ⟨rfl, e1⟩ | ⟨k, rfl⟩ <;> rcases bound_ok hl hlo with ⟨rfl, e2⟩ | ⟨k', rfl⟩
  · subst e1 e2; simp
  · subst e1; simp [Instr.sliceBound, asIntOf, b0, b1]
  · subst e2; simp [Instr.sliceBound, asIntOf, c1.1, c1.2]
  · simp [Instr.sliceBound, asIntOf, c1.1, c1.2, c2.1, c2.2, c3, b1]
theorem sliceA_ok {t : TypeId} {a v : AV} {lo hi : Option AV} {lo' hi' : Option Value} {bs : List Bool} {x : Value} (h : sliceA P t a lo hi = some (v, bs)) (hx : AV.rel ρ nx a x)
    (hlo : optRel ρ nx lo lo') (hhi : optRel ρ nx hi hi') (hbs : bs.all id = true) :
    PureOk P (Instr.sliceAt t x lo' hi' none) ρ nx w v := by
  unfold sliceA at h
  split at h
  · rename_i s hu
    cases hl : bound lo 0 with
    | none => rw [hl] at h; cases h
    | some l =>
      cases hh : bound hi s.size with
      | none => rw [hl, hh] at h; cases h
      | some q =>
        rw [hl, hh] at h
        cases h
        simp only [AV.rel] at hx
        subst hx
        simp at hbs
        obtain ⟨b0, b1, b2⟩ := hbs
        refine mkPure (.string (s.extract l.toNat q.toNat)) ?_ (by simp [AV.rel])
        have := sliceBounds_ok (P := P) (b := false) hl hh hlo hhi b0 b1 b2 (Nat.le_refl _) w
        simp [Instr.sliceAt, run_underlying hu, Instr.slice, this]
  · rename_i e nn l wd r s n cap hu
    cases hi2 : P.info? e with
    | none => rw [hi2] at h; cases h
    | some f =>
      rw [hi2] at h
      dsimp only at h
      cases hb : Nat.beq f.size (s * wd) with
      | false => rw [hb] at h; cases h
      | true =>
        rw [hb] at h
        dsimp only at h
        have hsz := Nat.eq_of_beq_eq_true hb
        cases hl : bound lo 0 with
        | none => rw [hl] at h; cases h
        | some b =>
          cases hh : bound hi n with
          | none => rw [hl, hh] at h; cases h
          | some q =>
            rw [hl, hh] at h
            cases h
            simp only [AV.rel] at hx
            obtain ⟨hlt, A, c, rfl, hnc, hA, hnn, hcap⟩ := hx
            simp at hbs
            obtain ⟨b0, b1, b2⟩ := hbs
            have := sliceBounds_ok (P := P) (b := true) hl hh hlo hhi b0 b1 b2 hnc w
            refine mkPure (.slice (if c = b.toNat then A else A.map (·.add (b.toNat * f.size))) (q.toNat - b.toNat) (c - b.toNat)) (by simp [Instr.sliceAt, run_underlying hu, Instr.slice, this, run_sizeOf hi2]) ?_
            simp only [AV.rel]
            refine ⟨hlt, _, c - b.toNat, rfl, by omega, fun hc => ?_, fun hn => ?_, ?_⟩
            · rw [if_neg (by omega), hA (by omega), Option.map_some, add_none, hsz, mulN_eq, addN_eq]
              simp [Nat.add_mul, Nat.mul_assoc, Nat.add_assoc]
            · have := hnn hn
              split
              · exact this
              · simpa using this
            · cases cap with
              | some c' => dsimp only at hcap ⊢; rw [hcap]
              | none =>
                dsimp only at hcap ⊢
                rw [mulN_eq, addN_eq, Nat.add_mul, Nat.mul_assoc]
                have e1 : c * (s * wd) = b.toNat * (s * wd) + (c - b.toNat) * (s * wd) := by rw [← Nat.add_mul]; congr 1; omega
                omega
  · rename_i e hu
    cases hi2 : P.info? e with
    | none => rw [hi2] at h; cases h
    | some f =>
     rw [hi2] at h
     dsimp only at h
     cases hl : bound lo 0 with
     | none => rw [hl] at h; cases h
     | some b =>
      cases hh : bound hi 0 with
      | none => rw [hl, hh] at h; cases h
      | some q =>
        rw [hl, hh] at h
        cases h
        simp only [AV.rel] at hx
        subst hx
        simp at hbs
        obtain ⟨rfl, rfl⟩ := hbs
        have := sliceBounds_ok (P := P) (b := true) (c := 0) hl hh hlo hhi (by omega) (by omega) (by omega) (Nat.le_refl _) w
        exact mkPure (.slice none 0 0) (by simp at this; simp [Instr.sliceAt, run_underlying hu, Instr.slice, this, run_sizeOf hi2]) (by simp [AV.rel])
  · rename_i n e l wd r c hu
    cases hi2 : P.info? e with
    | none => rw [hi2] at h; cases h
    | some f =>
      rw [hi2] at h
      dsimp only at h
      cases hc0 : Nat.beq c 0 with
      | false => rw [hc0] at h; cases h
      | true =>
        rw [hc0] at h
        dsimp only at h
        have := Nat.eq_of_beq_eq_true hc0
        subst this
        split at h
        · rename_i s hs
          have hsz : f.size = s * wd := by
            split at hs
            · rename_i h1
              cases hs
              rw [Nat.eq_of_beq_eq_true h1]; omega
            · split at hs
              · rename_i h1
                cases hs
                rw [Nat.eq_of_beq_eq_true h1]; omega
              · cases hs
          cases hl : bound lo 0 with
          | none => rw [hl] at h; cases h
          | some b =>
            cases hh : bound hi n with
            | none => rw [hl, hh] at h; cases h
            | some q =>
              rw [hl, hh] at h
              cases h
              simp only [AV.rel] at hx
              obtain ⟨hlt, rfl⟩ := hx
              simp at hbs
              obtain ⟨b0, b1, b2⟩ := hbs
              have := sliceBounds_ok (P := P) (b := false) hl hh hlo hhi b0 b1 b2 (Nat.le_refl _) w
              refine mkPure (.slice (some (if n = b.toNat then ⟨(ρ l).b, (ρ l).o + (r * wd + 0), none⟩ else (⟨(ρ l).b, (ρ l).o + (r * wd + 0), none⟩ : Addr).add (b.toNat * f.size))) (q.toNat - b.toNat) (n - b.toNat)) (by simp [Instr.sliceAt, run_underlying hu, Instr.sureAddr, this, run_sizeOf hi2]) ?_
              simp only [AV.rel]
              refine ⟨hlt, _, n - b.toNat, rfl, by omega, fun hc => ?_, fun _ => rfl, rfl⟩
              rw [if_neg (by omega), add_none, hsz, mulN_eq, addN_eq]
              simp [Nat.add_mul, Nat.mul_assoc, Nat.add_assoc]
        · cases h
  · cases h
end
end Go.Proofs.Ytmjpikkloofakaa

namespace Go.Proofs.Ytmjpikkloofakaa
open Go Go.RowKit

def allInts : List AV → Option (IntKind × List Int)
  | [.val (.int k z)] => some (k, [z])
  | .val (.int k z) :: r => match allInts r with
    | some (k', zs) => match decide (k = k') with
      | true => some (k, z :: zs)
      | false => none
    | none => none
  | _ => none
def allBools : List AV → Option (List Bool)
  | [] => some []
  | .val (.bool z) :: r => match allBools r with
    | some zs => some (z :: zs)
    | none => none
  | _ => none
def allStrs : List AV → Option (List ByteArray)
  | [] => some []
  | .val (.string z) :: r => match allStrs r with
    | some zs => some (z :: zs)
    | none => none
  | _ => none
def mkCont (l : List AV) : Cont := match Nat.blt 11 l.length with
  | false => .cells l
  | true => match allInts l with
    | some (k, zs) => .col (.ints k zs)
    | none => match allBools l with
      | some bs => .col (.bools bs)
      | none => match allStrs l with
        | some ss => .col (.strs ss)
        | none => .cells l
theorem allInts_eq : ∀ {l : List AV} {k : IntKind} {zs : List Int}, allInts l = some (k, zs) → l = zs.map fun z => .val (.int k z)
  | [], k, zs, h => by cases h
  | a :: l, k, zs, h => by
    unfold allInts at h
    split at h
    · rename_i h1; cases h1; cases h; rfl
    · rename_i k' z r _ h1
      cases h1
      split at h
      · rename_i k2 zs2 h2
        by_cases hk : k' = k2
        · subst hk
          simp at h
          obtain ⟨rfl, rfl⟩ := h
          rw [allInts_eq h2]; rfl
        · simp [hk] at h
      · cases h
    · cases h
theorem allBools_eq : ∀ {l : List AV} {zs : List Bool}, allBools l = some zs → l = zs.map fun z => .val (.bool z)
  | [], zs, h => by cases h; rfl
  | a :: l, zs, h => by
    unfold allBools at h
    split at h
    · rename_i h1; cases h1
    · rename_i z r h1
      cases h1
      split at h
      · rename_i zs2 h2
        cases h
        rw [allBools_eq h2]; rfl
      · cases h
    · cases h
theorem allStrs_eq : ∀ {l : List AV} {zs : List ByteArray}, allStrs l = some zs → l = zs.map fun z => .val (.string z)
  | [], zs, h => by cases h; rfl
  | a :: l, zs, h => by
    unfold allStrs at h
    split at h
    · rename_i h1; cases h1
    · rename_i z r h1
      cases h1
      split at h
      · rename_i zs2 h2
        cases h
        rw [allStrs_eq h2]; rfl
      · cases h
    · cases h
theorem mkCont_plain (l : List AV) : (mkCont l).plain = true := by
  unfold mkCont
  split
  · rfl
  · split
    · rfl
    · split
      · rfl
      · split <;> rfl
theorem mkCont_width (l : List AV) : (mkCont l).width = 1 := by
  unfold mkCont
  split
  · rfl
  · split
    · rfl
    · split
      · rfl
      · split <;> rfl
section
variable {P : Program} {ρ : Rho} {m : MS} {w : World} {nx : Nat}
theorem mkCont_rel {l : List AV} {xs : List Value} (h : AV.rels ρ nx l xs) : (mkCont l).rel ρ nx (fun j => xs.toArray[j]?) := by
  have hcells : Cont.rel ρ nx (.cells l) (fun j => xs.toArray[j]?) := fun r c a ha => by
    cases c <;> simp only [Cont.at] at ha
    · split at ha
      · rename_i v hv
        cases ha
        obtain ⟨x, hx, hr⟩ := h.at_ hv
        exact ⟨by simp [Cont.width], x, by simpa [Cont.width] using hx, hr⟩
      · cases ha
    · cases ha
  unfold mkCont
  split
  · exact hcells
  · split
    · rename_i k zs hz
      rw [allInts_eq hz] at h
      intro r c a ha
      cases c <;> simp only [Cont.at] at ha <;> try cases ha
      simp only [Col.at, Option.some.injEq, Prod.mk.injEq, decide_eq_true_eq] at ha
      obtain ⟨rfl, hlt⟩ := ha
      obtain ⟨x, hx, hr⟩ := h.at_ (i := r) (a := .val (.int k (zs.getD r 0))) (by simp [hlt])
      exact ⟨by simp [Cont.width], x, by simpa [Cont.width] using hx, hr⟩
    · split
      · rename_i bs hz
        rw [allBools_eq hz] at h
        intro r c a ha
        cases c <;> simp only [Cont.at] at ha <;> try cases ha
        simp only [Col.at, Option.some.injEq, Prod.mk.injEq, decide_eq_true_eq] at ha
        obtain ⟨rfl, hlt⟩ := ha
        obtain ⟨x, hx, hr⟩ := h.at_ (i := r) (a := .val (.bool (bs.getD r false))) (by simp [hlt])
        exact ⟨by simp [Cont.width], x, by simpa [Cont.width] using hx, hr⟩
      · split
        · rename_i ss hz
          rw [allStrs_eq hz] at h
          intro r c a ha
          cases c <;> simp only [Cont.at] at ha <;> try cases ha
          simp only [Col.at, Option.some.injEq, Prod.mk.injEq, decide_eq_true_eq] at ha
          obtain ⟨rfl, hlt⟩ := ha
          obtain ⟨x, hx, hr⟩ := h.at_ (i := r) (a := .val (.string (ss.getD r ⟨#[]⟩))) (by simp [hlt])
          exact ⟨by simp [Cont.width], x, by simpa [Cont.width] using hx, hr⟩
        · exact hcells
def AV.cellsOf : AV → Option (List AV)
  | .agg cs => some cs
  | a => match a.scalar with
    | true => some [a]
    | false => none
theorem AV.cellsOf_ok {a : AV} {l : List AV} {x : Value} (h : a.cellsOf = some l) (hx : AV.rel ρ nx a x) : ∃ xs : List Value, x.cells = xs.toArray ∧ AV.rels ρ nx l xs := by
  unfold AV.cellsOf at h
  split at h
  · cases h
    simp only [AV.rel] at hx
    obtain ⟨xs, rfl, hxs⟩ := hx
    exact ⟨xs, rfl, hxs⟩
  · rename_i hne
    cases hs : a.scalar with
    | false => rw [hs] at h; cases h
    | true =>
      rw [hs] at h
      cases h
      refine ⟨[x], ?_, by simp only [AV.rels]; exact ⟨x, [], rfl, hx, rfl⟩⟩
      have := AV.scalar_rel hs hx
      cases x <;> first | rfl | (cases this)
/-- One operation that makes or writes memory. -/
def MemOk (P : Program) (s : Sem Value) (ρ : Rho) (m : MS) (w : World) (v : AV) (m' : MS) : Prop :=
  ∃ ρ' x w', s.run P w = .ok x w' ∧ AV.rel ρ' m'.nx v x ∧ MRel ρ' m' w' ∧ Moves m.nx ρ ρ' m m' w w'
theorem PureOk.mem {s : Sem Value} {v : AV} (h : PureOk P s ρ m.nx w v) (hm : MRel ρ m w) : MemOk P s ρ m w v m := by
  obtain ⟨x, h1, h2⟩ := h
  exact ⟨ρ, x, w, h1, h2, hm, Moves.refl (Nat.le_refl _)⟩
def MS.new (m : MS) (b : ABlk) : MS := ⟨(m.nx, some b) :: m.bl, m.nx + 1⟩
def boxA (m : MS) (a : AV) : Option (AV × MS) := match a.cellsOf with
  | some l => some (.ptr m.nx 1 0 0, m.new ⟨true, false, mkCont l⟩)
  | none => none
theorem boxA_ok {t : TypeId} {a v : AV} {m' : MS} {x : Value} (h : boxA m a = some (v, m')) (hm : MRel ρ m w) (hx : AV.rel ρ m.nx a x) : MemOk P (Instr.box t x) ρ m w v m' := by
  unfold boxA at h
  split at h
  · rename_i l hl
    cases h
    obtain ⟨xs, hc, hr⟩ := AV.cellsOf_ok hl hx
    obtain ⟨h1, h2⟩ := hm.alloc (b := ⟨true, false, mkCont l⟩) (cs := xs.toArray) (t := t) (cap := 0) (mkCont_rel hr) (fun h => by cases h) (mkCont_plain l)
    refine ⟨_, .pointer (some ⟨w.heap.size, 0, none⟩), _, ?_, ?_, h1, h2⟩
    · simp [Instr.box, newVar, newRow, hc]
    · simp only [AV.rel, MS.new, Rho.new, if_true]
      exact ⟨Nat.lt_succ_self _, trivial⟩
  · cases h
def zeroA (P : Program) (t : TypeId) : Option AV := match P.info? t with
  | some i => match i.zero with
    | some v => some (ofConst v)
    | none => none
  | none => none
theorem ofConst_rel (v : Value) : AV.rel ρ nx (ofConst v) v := by
  unfold ofConst
  split
  · rename_i cs
    simp only [AV.rel]
    exact ⟨cs.toList, by simp, AV.rels.vals _⟩
  · simp [AV.rel]
theorem zeroA_ok {t : TypeId} {a : AV} (h : zeroA P t = some a) : ∃ v, (∀ w, (zeroValue t).run P w = .ok v w) ∧ a = ofConst v := by
  unfold zeroA at h
  cases hi : P.info? t with
  | none => rw [hi] at h; cases h
  | some i =>
    rw [hi] at h
    dsimp only at h
    cases hz : i.zero with
    | none => rw [hz] at h; cases h
    | some v =>
      rw [hz] at h
      cases h
      exact ⟨v, fun w => by simp [zeroValue, run_typeInfo hi, hz], rfl⟩
/-- A new variable's cells; one that holds the zero of a struct of a pointer and a slice keeps its type. -/
def contT (t : TypeId) (l : List AV) : Cont := match l with
  | [.val (.pointer none), .val (.slice none 0 0)] => .obj (.typed t l)
  | _ => mkCont l
theorem contT_rel {t : TypeId} {l : List AV} {xs : List Value} (h : AV.rels ρ nx l xs) : (contT t l).rel ρ nx (fun j => xs.toArray[j]?) := by
  unfold contT
  split
  · intro r c a ha
    cases c <;> simp only [Cont.at] at ha <;> try cases ha
    split at ha
    · rename_i v hv
      cases ha
      obtain ⟨x, hx, hr⟩ := h.at_ hv
      exact ⟨by simp [Cont.width], x, by simpa [Cont.width] using hx, hr⟩
    · cases ha
  · exact mkCont_rel h
theorem contT_obj {t : TypeId} {l : List AV} (q : QObj) (hq : contT t l = .obj q) : q = .typed t l := by
  unfold contT at hq
  split at hq
  · cases hq; rfl
  · exact absurd hq (Cont.plain_ne (mkCont_plain _) q)
def boxT (m : MS) (t : TypeId) (a : AV) : Option (AV × MS) := match a.cellsOf with
  | some l => some (.ptr m.nx 1 0 0, m.new ⟨true, false, contT t l⟩)
  | none => none
theorem boxT_ok {t : TypeId} {a v : AV} {m' : MS} {x : Value} (h : boxT m t a = some (v, m')) (hm : MRel ρ m w) (hx : AV.rel ρ m.nx a x) : MemOk P (Instr.box t x) ρ m w v m' := by
  unfold boxT at h
  split at h
  · rename_i l hl
    cases h
    obtain ⟨xs, hc, hr⟩ := AV.cellsOf_ok hl hx
    obtain ⟨h1, h2⟩ := hm.allocT (b := ⟨true, false, contT t l⟩) (cs := xs.toArray) (t := t) (cap := 0) (contT_rel hr) (fun h => by cases h) (fun q hq => by
      have e := contT_obj q hq
      subst e
      refine ⟨rfl, ?_⟩
      have hnew : (w.alloc (.cells xs.toArray t)).heap[w.heap.size]? = some (.cells xs.toArray t) := by show (w.heap.push _)[w.heap.size]? = _; simp
      simp only [World.shape?, hnew]
      rw [hr.len]; simp)
    refine ⟨_, .pointer (some ⟨w.heap.size, 0, none⟩), _, ?_, ?_, h1, h2⟩
    · simp [Instr.box, newVar, newRow, hc]
    · simp only [AV.rel, MS.new, Rho.new, if_true]
      exact ⟨Nat.lt_succ_self _, trivial⟩
  · cases h
def allocA (P : Program) (m : MS) (t : TypeId) : Option (AV × MS) := match zeroA P t with
  | some a => boxT m t a
  | none => none
theorem allocA_ok {t : TypeId} {v : AV} {m' : MS} (h : allocA P m t = some (v, m')) (hm : MRel ρ m w) : MemOk P (Instr.alloc t true (.tuple #[])) ρ m w v m' := by
  unfold allocA at h
  cases hz : zeroA P t with
  | none => rw [hz] at h; cases h
  | some a =>
    rw [hz] at h
    obtain ⟨z, h1, rfl⟩ := zeroA_ok hz
    obtain ⟨ρ', x, w', h2, h3⟩ := boxT_ok (P := P) (t := t) h hm (ofConst_rel z)
    refine ⟨ρ', x, w', ?_, h3⟩
    simp only [Instr.box] at h2
    simpa [Instr.alloc, h1] using h2
/-- Cells put at a place. -/
def setMany : List AV → Nat → List AV → List AV
  | l, _, [] => l
  | l, o, c :: cs => setMany (l.set o c) (o + 1) cs
def setManyV : List Value → Nat → List Value → List Value
  | l, _, [] => l
  | l, o, c :: cs => setManyV (l.set o c) (o + 1) cs
theorem setMany_rels : ∀ {cs : List AV} {ys : List Value} {l : List AV} {xs : List Value} (o : Nat), AV.rels ρ nx l xs → AV.rels ρ nx cs ys → AV.rels ρ nx (setMany l o cs) (setManyV xs o ys)
  | [], ys, l, xs, o, h, h' => by simp only [AV.rels] at h'; subst h'; exact h
  | c :: cs, ys, l, xs, o, h, h' => by
    simp only [AV.rels] at h'
    obtain ⟨y, zs, rfl, h1, h2⟩ := h'
    exact setMany_rels (o + 1) (h.set h1) h2
theorem setManyV_eq : ∀ (ys : List Value) (xs : List Value) (o j : Nat), (ys.zipIdx j).foldl (fun (cs : Array Value) (p : Value × Nat) => cs.setIfInBounds (o + p.2) p.1) xs.toArray = (setManyV xs (o + j) ys).toArray
  | [], xs, o, j => by simp [setManyV]
  | y :: ys, xs, o, j => by
    have := setManyV_eq ys (xs.set (o + j) y) o (j + 1)
    simp only [List.zipIdx_cons, List.foldl_cons, setManyV, List.setIfInBounds_toArray]
    exact this
def fillA (place : Nat → Option (Nat × Nat)) : List AV → List (Nat × AV) → Option (List AV)
  | l, [] => some l
  | l, (i, a) :: rest => match place i with
    | none => none
    | some (off, size) => match a.cellsOf with
      | none => none
      | some cs => match Nat.beq cs.length size with
        | false => none
        | true => match Nat.ble (off + cs.length) l.length with
          | false => none
          | true => fillA place (setMany l off cs) rest
def PRel (ρ : Rho) (nx : Nat) : List (Nat × AV) → List (Nat × Value) → Prop
  | [], ys => ys = []
  | (i, a) :: r, ys => ∃ y zs, ys = (i, y) :: zs ∧ AV.rel ρ nx a y ∧ PRel ρ nx r zs
theorem fillA_ok {place : Nat → Option (Nat × Nat)} : ∀ {ps : List (Nat × AV)} {qs : List (Nat × Value)} {l l' : List AV} {xs : List Value}, fillA place l ps = some l' → PRel ρ nx ps qs → AV.rels ρ nx l xs →
    ∃ xs' : List Value, Instr.fill place xs.toArray qs = some xs'.toArray ∧ AV.rels ρ nx l' xs'
  | [], qs, l, l', xs, h, hp, hr => by
    simp only [PRel] at hp
    subst hp
    cases h
    exact ⟨xs, rfl, hr⟩
  | (i, a) :: ps, qs, l, l', xs, h, hp, hr => by
    simp only [PRel] at hp
    obtain ⟨y, zs, rfl, h1, h2⟩ := hp
    simp only [fillA] at h
    cases hpl : place i with
    | none => rw [hpl] at h; cases h
    | some q =>
      obtain ⟨off, size⟩ := q
      rw [hpl] at h
      dsimp only at h
      cases hc : a.cellsOf with
      | none => rw [hc] at h; cases h
      | some cs =>
        rw [hc] at h
        dsimp only at h
        cases hb1 : Nat.beq cs.length size with
        | false => rw [hb1] at h; cases h
        | true =>
          rw [hb1] at h
          dsimp only at h
          cases hb2 : Nat.ble (off + cs.length) l.length with
          | false => rw [hb2] at h; cases h
          | true =>
            rw [hb2] at h
            dsimp only at h
            obtain ⟨ys, hy, hry⟩ := AV.cellsOf_ok hc h1
            have e1 := Nat.eq_of_beq_eq_true hb1
            have e2 := Nat.le_of_ble_eq_true hb2
            have l1 := hry.len
            have l2 := hr.len
            obtain ⟨xs', g1, g2⟩ := fillA_ok h h2 (setMany_rels off hr hry)
            refine ⟨xs', ?_, g2⟩
            simp only [Instr.fill, hpl, hy]
            rw [if_neg (by simp; omega)]
            have := setManyV_eq ys xs off 0
            simp only [Nat.add_zero] at this
            rw [← g1, ← this]
            simp
/-- The places of a struct's fields. -/
def fieldSize (P : Program) (f : Field) : Nat := match P.info? f.type with
  | some i => i.size
  | none => 0
theorem run_places : ∀ (fs : List Field), (fs.all fun f => (P.info? f.type).isSome) = true → ∀ w, (fs.mapM fun f => do pure (f.offset, ← sizeOf f.type) : Sem (List (Nat × Nat))).run P w = .ok (fs.map fun f => (f.offset, fieldSize P f)) w
  | [], _, w => by simp
  | f :: fs, h, w => by
    simp only [List.all_cons, Bool.and_eq_true] at h
    obtain ⟨i, hi⟩ := Option.isSome_iff_exists.1 h.1
    have := run_places fs h.2 w
    simp only [List.mapM_cons, Sem.run_bind, run_sizeOf hi, Result.andThen_ok, Sem.run_pure, this, List.map_cons, fieldSize, hi]
def buildA (P : Program) (t : TypeId) (ps : List (Nat × AV)) : Option AV := match zeroA P t with
  | some (.agg z) => match P.underlying t with
    | some (.struct fs) => match fs.toList.all fun f => (P.info? f.type).isSome with
      | true => match fillA (fun i => match fs[i]? with | some f => some (f.offset, fieldSize P f) | none => none) z ps with
        | some l => some (.agg l)
        | none => none
      | false => none
    | some (.array _ e) => match P.info? e with
      | some f => match fillA (fun i => some (i * f.size, f.size)) z ps with
        | some l => some (.agg l)
        | none => none
      | none => none
    | _ => none
  | _ => none
theorem ofConst_agg {v : Value} {z : List AV} (h : ofConst v = .agg z) : ∃ cs : List Value, v = .agg cs.toArray ∧ z = cs.map AV.val := by
  unfold ofConst at h
  split at h
  · rename_i cs
    cases h
    exact ⟨cs.toList, by simp, rfl⟩
  · cases h
theorem buildA_ok {t : TypeId} {ps : List (Nat × AV)} {qs : List (Nat × Value)} {v : AV} (h : buildA P t ps = some v) (hp : PRel ρ nx ps qs) : PureOk P (Instr.build t qs.toArray) ρ nx w v := by
  unfold buildA at h
  cases hz : zeroA P t with
  | none => rw [hz] at h; cases h
  | some za =>
    obtain ⟨zv, hzv, rfl⟩ := zeroA_ok hz
    rw [hz] at h
    cases hza : ofConst zv with
    | agg z =>
      rw [hza] at h
      dsimp only at h
      obtain ⟨cs, rfl, rfl⟩ := ofConst_agg hza
      cases hu : P.underlying t with
      | none => rw [hu] at h; cases h
      | some ty =>
        rw [hu] at h
        cases ty with
        | struct fs =>
          dsimp only at h
          cases hall : fs.toList.all fun f => (P.info? f.type).isSome with
          | false => rw [hall] at h; cases h
          | true =>
            rw [hall] at h
            dsimp only at h
            cases hf : fillA (fun i => match fs[i]? with | some f => some (f.offset, fieldSize P f) | none => none) (cs.map AV.val) ps with
            | none => rw [hf] at h; cases h
            | some l =>
              rw [hf] at h
              cases h
              obtain ⟨xs, g1, g2⟩ := fillA_ok hf hp (AV.rels.vals cs)
              refine mkPure (.agg xs.toArray) ?_ (by simp only [AV.rel]; exact ⟨xs, rfl, g2⟩)
              have hm : (fs.mapM fun f => do pure (f.offset, ← sizeOf f.type) : Sem (Array (Nat × Nat))).run P w = .ok (fs.map fun f => (f.offset, fieldSize P f)) w := by
                have := run_places fs.toList hall w
                rw [Array.mapM_eq_mapM_toList]
                simp only [Sem.run_map, this, Result.andThen_ok]
                simp [← Array.toList_map]
              have e : (fun (i : Nat) => (fs.map fun f => (f.offset, fieldSize P f))[i]?) = (fun i => match fs[i]? with | some f => some (f.offset, fieldSize P f) | none => none) := by
                funext i
                simp only [Array.getElem?_map]
                cases fs[i]? <;> rfl
              simp only [Instr.build, Sem.run_bind, hzv, Result.andThen_ok, run_underlying hu, hm, Value.cells, e, g1, Sem.run_pure]
        | array n e =>
          dsimp only at h
          cases hi : P.info? e with
          | none => rw [hi] at h; cases h
          | some f =>
            rw [hi] at h
            dsimp only at h
            cases hf : fillA (fun i => some (i * f.size, f.size)) (cs.map AV.val) ps with
            | none => rw [hf] at h; cases h
            | some l =>
              rw [hf] at h
              cases h
              obtain ⟨xs, g1, g2⟩ := fillA_ok hf hp (AV.rels.vals cs)
              refine mkPure (.agg xs.toArray) ?_ (by simp only [AV.rel]; exact ⟨xs, rfl, g2⟩)
              simp only [Instr.build, Sem.run_bind, hzv, Result.andThen_ok, run_underlying hu, run_sizeOf hi, Value.cells, g1, Sem.run_pure]
        | _ => cases h
    | _ => rw [hza] at h; cases h
def zerosA (z : List AV) (n : Nat) : List AV := (List.range n).map fun i => z.getD (i % z.length) .unk
theorem zerosA_rels {z : List AV} {zs : List Value} (h : AV.rels ρ nx z zs) (n : Nat) : AV.rels ρ nx (zerosA z n) ((List.range n).map (zs.toArray[· % zs.toArray.size]!)) := by
  unfold zerosA
  generalize List.range n = L
  induction L with
  | nil => simp [AV.rels]
  | cons i L ih =>
    simp only [List.map_cons, AV.rels]
    refine ⟨_, _, rfl, ?_, ih⟩
    have hl := h.len
    cases hz : z[i % z.length]? with
    | none => simp [hz, AV.rel]
    | some a =>
      obtain ⟨x, hx, hr⟩ := h.at_ hz
      have e : zs.toArray[i % zs.toArray.size]! = x := by
        rw [hl] at hx
        simp [hx]
      rw [e]
      simpa [hz] using hr
def buildSliceA (P : Program) (m : MS) (t : TypeId) (len : Nat) (ps : List (Nat × AV)) : Option (AV × MS) := match P.underlying t with
  | some (.slice e) => match P.info? e with
    | some f => match Nat.ble (len * f.size) 16777216 with
      | true => match (match Nat.beq (len * f.size) 0 with
          | true => some []
          | false => match zeroA P e with
            | some a => a.cellsOf
            | none => none) with
        | some z => match fillA (fun i => some (i * f.size, f.size)) (zerosA z (len * f.size)) ps with
          | some l => some (.sl true m.nx 1 0 f.size len (some len), m.new ⟨true, false, mkCont l⟩)
          | none => none
        | none => none
      | false => none
    | none => none
  | _ => none
theorem buildSliceA_ok {t : TypeId} {len : Nat} {ps : List (Nat × AV)} {qs : List (Nat × Value)} {v : AV} {m' : MS} (h : buildSliceA P m t len ps = some (v, m')) (hm : MRel ρ m w) (hp : PRel ρ m.nx ps qs) :
    MemOk P (Instr.buildSlice t len qs.toArray) ρ m w v m' := by
  unfold buildSliceA at h
  split at h
  · rename_i e hu
    cases hi : P.info? e with
    | none => rw [hi] at h; cases h
    | some f =>
      rw [hi] at h
      dsimp only at h
      cases hb : Nat.ble (len * f.size) 16777216 with
      | false => rw [hb] at h; cases h
      | true =>
        rw [hb] at h
        dsimp only at h
        have hle := Nat.le_of_ble_eq_true hb
        split at h
        · rename_i z hz
          cases hf : fillA (fun i => some (i * f.size, f.size)) (zerosA z (len * f.size)) ps with
          | none => rw [hf] at h; cases h
          | some l =>
            rw [hf] at h
            cases h
            have hzz : ∃ zs : List Value, AV.rels ρ m.nx z zs ∧ ((len * f.size = 0 ∧ zs = []) ∨ (len * f.size ≠ 0 ∧ ∃ zv, (∀ w, (zeroValue e).run P w = .ok zv w) ∧ zv.cells = zs.toArray)) := by
              split at hz
              · rename_i h0
                cases hz
                exact ⟨[], by simp [AV.rels], .inl ⟨Nat.eq_of_beq_eq_true h0, rfl⟩⟩
              · rename_i h0
                cases hza : zeroA P e with
                | none => rw [hza] at hz; cases hz
                | some za =>
                  rw [hza] at hz
                  obtain ⟨zv, hzv, rfl⟩ := zeroA_ok hza
                  obtain ⟨zs, hc, hr⟩ := AV.cellsOf_ok hz (ofConst_rel (ρ := ρ) (nx := m.nx) zv)
                  exact ⟨zs, hr, .inr ⟨(fun e => by rw [e] at h0; cases h0), zv, hzv, hc⟩⟩
            obtain ⟨zs, hzr, hzv⟩ := hzz
            obtain ⟨xs, g1, g2⟩ := fillA_ok hf hp (zerosA_rels hzr (len * f.size))
            obtain ⟨h1, h2⟩ := hm.alloc (b := ⟨true, false, mkCont l⟩) (cs := xs.toArray) (t := e) (cap := 0) (mkCont_rel g2) (fun h => by cases h) (mkCont_plain l)
            refine ⟨_, .slice (some ⟨w.heap.size, 0, none⟩) len len, _, ?_, ?_, h1, h2⟩
            · have e0 : ((Array.range (len * f.size)).map (zs.toArray[· % zs.toArray.size]!)) = ((List.range (len * f.size)).map (zs.toArray[· % zs.toArray.size]!)).toArray := by
                apply Array.ext'; simp
              simp only [Instr.buildSlice, Sem.run_bind, run_underlying hu, Result.andThen_ok, run_sizeOf hi]
              rw [if_neg (by omega)]
              rcases hzv with ⟨h0, rfl⟩ | ⟨h0, zv, hzv, hc⟩
              · rw [if_pos h0]
                simp only [Sem.run_bind, Sem.run_pure, Result.andThen_ok]
                rw [e0, g1]
                simp [newRow]
              · rw [if_neg h0]
                simp only [Sem.run_bind, hzv, Sem.run_pure, Result.andThen_ok, hc]
                rw [e0, g1]
                simp [newRow]
            · simp only [AV.rel, MS.new, Rho.new, if_true]
              exact ⟨Nat.lt_succ_self _, _, len, rfl, Nat.le_refl _, fun _ => by simp, fun _ => rfl, rfl⟩
        · cases h
  · cases h
/-- What is stored, cell by cell. -/
def setN (k : Cont) (w r c : Nat) : List AV → Nat → Option (Cont × List Bool)
  | [], _ => some (k, [])
  | a :: as, j => match bump w r c j with
    | (r', c') => match k.set r' c' a with
      | some (k', b) => match setN k' w r c as (j + 1) with
        | some (k'', bs) => match k with
          | .cells _ => some (k'', bs)
          | _ => some (k'', b :: bs)
        | none => none
      | none => none
/-- A whole row of numbers, more than eleven, is stored at once. -/
def setM (k : Cont) (w r c : Nat) (cs : List AV) : Option (Cont × List Bool) := match Nat.blt 11 cs.length with
  | false => setN k w r c cs 0
  | true => match k with
    | .col (.ints kd zs) => match Nat.beq r 0 with
      | true => match Nat.beq c 0 with
        | true => match allInts cs with
          | some (kd', ns) => match decide (kd = kd') with
            | true => some (.col (.ints kd ns), [decide (zs.length = ns.length)])
            | false => none
          | none => none
        | false => setN k w r c cs 0
      | false => setN k w r c cs 0
    | _ => setN k w r c cs 0
theorem setN_col (kd : IntKind) : ∀ (ns done rest : List Int), rest.length = ns.length → ∃ bs, setN (.col (.ints kd (done ++ rest))) 1 0 0 (ns.map fun z => .val (.int kd z)) done.length = some (.col (.ints kd (done ++ ns)), bs) ∧ bs.all id = true
  | [], done, rest, h => by
    have : rest = [] := List.eq_nil_of_length_eq_zero h
    subst this
    exact ⟨[], rfl, rfl⟩
  | z :: ns, done, [], h => by simp at h
  | z :: ns, done, y :: rest, h => by
    obtain ⟨bs, g1, g2⟩ := setN_col kd ns (done ++ [z]) rest (by simpa using h)
    refine ⟨true :: bs, ?_, by simpa using g2⟩
    simp only [List.map_cons, setN, bump_one, Cont.set, Col.set, decide_true]
    have e : (done ++ y :: rest).set done.length z = done ++ [z] ++ rest := by
      rw [List.set_append_right _ _ (Nat.le_refl _), Nat.sub_self, List.set_cons_zero, List.append_assoc]; rfl
    have e2 : decide (done.length < (done ++ y :: rest).length) = true := decide_eq_true (by simp)
    rw [e, e2]
    simp only [List.length_append, List.length_singleton] at g1
    simp only [g1]
    rw [List.append_assoc]; rfl
theorem setM_eq {k k' : Cont} {r c : Nat} {cs : List AV} {bs : List Bool} (h : setM k k.width r c cs = some (k', bs)) (hbs : bs.all id = true) : ∃ bs', setN k k.width r c cs 0 = some (k', bs') ∧ bs'.all id = true := by
  unfold setM at h
  split at h
  · exact ⟨bs, h, hbs⟩
  · split at h
    · rename_i kd zs
      split at h
      · rename_i hr
        split at h
        · rename_i hc
          split at h
          · rename_i kd' ns hns
            split at h
            · rename_i hk
              cases h
              have hk := of_decide_eq_true hk
              subst hk
              have hl : zs.length = ns.length := by simpa using hbs
              have hr := Nat.eq_of_beq_eq_true hr
              have hc := Nat.eq_of_beq_eq_true hc
              subst hr; subst hc
              rw [allInts_eq hns]
              exact setN_col kd ns [] zs hl
            · cases h
          · cases h
        · exact ⟨bs, h, hbs⟩
      · exact ⟨bs, h, hbs⟩
    · exact ⟨bs, h, hbs⟩
def storeA (P : Program) (t : TypeId) (m : MS) (a v : AV) : Option (MS × List Bool) := match a with
  | .ptr l w r c => match look m.bl l with
    | some b => match b.wr with
      | true => match Nat.beq b.cont.width w with
        | true => match v.cellsOf with
          | some cs => match P.info? t with
            | some i => match Nat.beq cs.length i.size with
              | true => match setM b.cont w r c cs with
                | some (k, bs) => some (⟨upd m.bl l (some ⟨true, b.op, k⟩), m.nx⟩, bs)
                | none => none
              | false => none
            | none => none
          | none => none
        | false => none
      | false => none
    | none => none
  | _ => none
theorem Col.set_at {cl cl' : Col} {r : Nat} {v : AV} (h : cl.set r v = some (cl', true)) : ∃ a, cl.at r = (a, true) := by
  cases cl <;> cases v <;> simp only [Col.set] at h <;> try cases h
  all_goals (rename_i u; cases u <;> simp only [Col.set] at h <;> try cases h)
  · rename_i k zs k' n
    by_cases hk : k = k'
    · simp [hk] at h
      exact ⟨_, by simp only [Col.at]; rw [decide_eq_true h.2]⟩
    · simp [hk] at h
  · simp only [Option.some.injEq, Prod.mk.injEq] at h; exact ⟨_, by simp only [Col.at]; rw [h.2]⟩
  · simp only [Option.some.injEq, Prod.mk.injEq] at h; exact ⟨_, by simp only [Col.at]; rw [h.2]⟩
theorem Cont.set_at {k k' : Cont} {r c : Nat} {v : AV} (h : k.set r c v = some (k', true)) : ∃ a, k.at r c = some (a, true) := by
  cases k with
  | cells l =>
    cases c <;> simp only [Cont.set] at h <;> try cases h
    cases hb : Nat.blt r l.length <;> simp only [hb] at h <;> try cases h
    have hlt : r < l.length := by simpa [Nat.blt_eq] using hb
    exact ⟨l[r], by simp only [Cont.at]; rw [List.getElem?_eq_getElem hlt]⟩
  | col cl =>
    cases c <;> simp only [Cont.set] at h <;> try cases h
    cases hc : cl.set r v with
    | none => simp [hc] at h
    | some p =>
      obtain ⟨cl', b'⟩ := p
      simp only [hc, Option.some.injEq, Prod.mk.injEq] at h
      obtain ⟨rfl, rfl⟩ := h
      obtain ⟨a, ha⟩ := Col.set_at hc
      exact ⟨a, by simp only [Cont.at]; rw [ha]⟩
  | rows cs =>
    simp only [Cont.set] at h
    cases hcc : cs[c]? with
    | none => simp [hcc] at h
    | some cl =>
      simp only [hcc] at h
      cases hc : cl.set r v with
      | none => simp [hc] at h
      | some p =>
        obtain ⟨cl', b'⟩ := p
        simp only [hc, Option.some.injEq, Prod.mk.injEq] at h
        obtain ⟨rfl, rfl⟩ := h
        obtain ⟨a, ha⟩ := Col.set_at hc
        exact ⟨a, by simp only [Cont.at, hcc]; rw [ha]⟩
  | obj q => cases q with
    | typed t l =>
      cases c <;> simp only [Cont.set] at h <;> try cases h
      cases hb : Nat.blt r l.length <;> simp only [hb] at h <;> try cases h
      have hlt : r < l.length := by simpa [Nat.blt_eq] using hb
      exact ⟨l[r], by simp only [Cont.at]; rw [List.getElem?_eq_getElem hlt]⟩
    | glob g c0 => cases c <;> (simp only [Cont.set] at h; cases h)
    | loop st pe tm ps asg body => cases c <;> (simp only [Cont.set] at h; cases h)
    | trow t s0 => cases c <;> (simp only [Cont.set] at h; cases h)
    | mpo fk fv es => cases c <;> (simp only [Cont.set] at h; cases h)
    | mit tm n0 seen => cases c <;> (simp only [Cont.set] at h; cases h)
    | nest cs0 fo0 => cases c <;> (simp only [Cont.set] at h; cases h)
theorem Cont.set_cells {l : List AV} {k' : Cont} {r c : Nat} {v : AV} {b : Bool} (h : (Cont.cells l).set r c v = some (k', b)) : b = true := by
  cases c <;> simp only [Cont.set] at h <;> try cases h
  cases hb : Nat.blt r l.length <;> simp only [hb] at h <;> try cases h
  cases hs : v.scalar <;> simp only [hs] at h <;> cases h
  rfl
theorem upd_upd (l : Nat) (a b : Option ABlk) : ∀ s, upd (upd s l a) l b = upd s l b
  | [] => by simp [upd]
  | (l', c) :: r => by
    simp only [upd]
    by_cases h : l' = l
    · subst h; simp [upd]
    · rw [nbeq_ne h]; simp only [upd]; rw [nbeq_ne h, upd_upd l a b r]
theorem storeN_ok {l : Nat} {r c : Nat} : ∀ (as : List AV) (j : Nat) (m : MS) (b : ABlk) (k : Cont) (bs : List Bool) (w : World) (ys : List Value), MRel ρ m w → look m.bl l = some b → b.wr = true → setN b.cont b.cont.width r c as j = some (k, bs) → bs.all id = true → AV.rels ρ m.nx as ys →
    ∃ w', (storeCells ⟨(ρ l).b, (ρ l).o + (r * b.cont.width + c), none⟩ ys j).run P w = .ok () w' ∧ MRel ρ ⟨upd m.bl l (some ⟨true, b.op, k⟩), m.nx⟩ w' ∧ Moves m.nx ρ ρ m ⟨upd m.bl l (some ⟨true, b.op, k⟩), m.nx⟩ w w'
  | [], j, m, b, k, bs, w, ys, hm, hl, hw, h, _, hr => by
    simp only [AV.rels] at hr
    subst hr
    simp only [setN] at h
    cases h
    have eb : (⟨true, b.op, b.cont⟩ : ABlk) = b := by cases b; simp at hw; simp [hw]
    have el : ∀ l', look (upd m.bl l (some b)) l' = look m.bl l' := fun l' => by
      rw [look_upd]; split
      · rename_i e; subst e; exact hl.symm
      · rfl
    rw [eb]
    refine ⟨w, rfl, hm.less (Nat.le_refl _) (fun l' b' h' => by rw [← el]; exact h'), ⟨fun _ _ => rfl, Nat.le_refl _, rfl, rfl, ⟨rfl, Nat.le_refl _⟩, Nat.le_refl _, fun _ _ _ => rfl, fun g hg => .inl ?_⟩⟩
    obtain ⟨l1, b1, h1, h2, h3⟩ := hg
    exact ⟨l1, b1, by rw [← el]; exact h1, h2, h3⟩
  | a :: as, j, m, b, k, bs, w, ys, hm, hl, hw, h, hbs, hr => by
    simp only [AV.rels] at hr
    obtain ⟨y, zs, rfl, r1, r2⟩ := hr
    simp only [setN] at h
    cases hb : bump b.cont.width r c j with
    | mk r' c' =>
      rw [hb] at h
      dsimp only at h
      cases hs : b.cont.set r' c' a with
      | none => rw [hs] at h; cases h
      | some p =>
        obtain ⟨k1, b1⟩ := p
        rw [hs] at h
        dsimp only at h
        cases hn : setN k1 b.cont.width r c as (j + 1) with
        | none => rw [hn] at h; cases h
        | some q =>
          obtain ⟨k2, bs2⟩ := q
          rw [hn] at h
          have hfin : b1 = true ∧ k2 = k ∧ bs2.all id = true := by
            cases hk : b.cont with
            | cells l =>
              rw [hk] at h hs
              cases h
              exact ⟨Cont.set_cells hs, rfl, hbs⟩
            | col cl => rw [hk] at h; cases h; exact ⟨(all_cons hbs).1, rfl, (all_cons hbs).2⟩
            | rows cs => rw [hk] at h; cases h; exact ⟨(all_cons hbs).1, rfl, (all_cons hbs).2⟩
            | obj q => rw [hk] at h; cases h; exact ⟨(all_cons hbs).1, rfl, (all_cons hbs).2⟩
          obtain ⟨rfl, rfl, hbs2⟩ := hfin
          obtain ⟨at0, hat⟩ := Cont.set_at hs
          obtain ⟨_, y0, hy0, _⟩ := (hm.blk l b hl).2.rel r' c' at0 hat
          obtain ⟨g1, g2, g3⟩ := hm.store hl hw hs r1 hy0
          have hsc : a.scalar = true := ((hm.blk l b hl).2.rel.set (x := y) (cell' := fun j => (w.setCell ⟨(ρ l).b, (ρ l).o + (r' * b.cont.width + c'), none⟩ y).cell? ⟨(ρ l).b, (ρ l).o + j, none⟩) hs r1
            (by simp only [cell_setCell _ _ _ _ _ hy0]; simp) (fun i hi => by simp only [cell_setCell _ _ _ _ _ hy0]; rw [if_neg (by omega)])).2.2.1
          have hone := AV.scalar_rel hsc r1
          have hl' : look (upd m.bl l (some ⟨b.wr, b.op, k1⟩)) l = some ⟨b.wr, b.op, k1⟩ := by rw [look_upd, if_pos rfl]
          obtain ⟨w', e1, e2, e3⟩ := storeN_ok as (j + 1) ⟨upd m.bl l (some ⟨b.wr, b.op, k1⟩), m.nx⟩ ⟨b.wr, b.op, k1⟩ k2 bs2 _ zs g1 hl' hw (by rw [g3]; exact hn) hbs2 r2
          have hy0' : w.cell? ⟨(ρ l).b, (ρ l).o + (r' * b.cont.width + c'), none⟩ = some y0 := hy0
          have hfz := (hm.blk l b hl).2.free hw ((ρ l).o + (r' * b.cont.width + c'))
          simp only [upd_upd] at e2 e3
          refine ⟨w', ?_, e2, g2.trans e3⟩
          simp only [g3] at e1
          have ea : (⟨(ρ l).b, (ρ l).o + (r * b.cont.width + c), none⟩ : Addr).add j = ⟨(ρ l).b, (ρ l).o + (r' * b.cont.width + c'), none⟩ := by
            rw [add_none, bump_ok hb]; simp [Nat.add_assoc]
          simp only [storeCells, Sem.run_bind, ea, run_store _ _ _ _ _ hone, hy0', hfz, Bool.false_eq_true, if_false, Result.andThen_ok, e1]
theorem storeA_ok {t : TypeId} {a v : AV} {m' : MS} {bs : List Bool} {x y : Value} (h : storeA P t m a v = some (m', bs)) (hm : MRel ρ m w) (hx : AV.rel ρ m.nx a x) (hy : AV.rel ρ m.nx v y) (hbs : bs.all id = true) :
    ∃ w', (Instr.storeAt t x y).run P w = .ok () w' ∧ MRel ρ m' w' ∧ Moves m.nx ρ ρ m m' w w' := by
  unfold storeA at h
  split at h
  · rename_i l wd r c
    simp only [AV.rel] at hx
    obtain ⟨hl, rfl⟩ := hx
    cases hlk : look m.bl l with
    | none => rw [hlk] at h; cases h
    | some b =>
      rw [hlk] at h
      dsimp only at h
      cases hw : b.wr with
      | false => rw [hw] at h; cases h
      | true =>
        rw [hw] at h
        dsimp only at h
        cases hwd : Nat.beq b.cont.width wd with
        | false => rw [hwd] at h; cases h
        | true =>
          rw [hwd] at h
          dsimp only at h
          have := Nat.eq_of_beq_eq_true hwd
          subst this
          cases hc : v.cellsOf with
          | none => rw [hc] at h; cases h
          | some cs =>
            rw [hc] at h
            dsimp only at h
            cases hi : P.info? t with
            | none => rw [hi] at h; cases h
            | some i =>
              rw [hi] at h
              dsimp only at h
              cases hb : Nat.beq cs.length i.size with
              | false => rw [hb] at h; cases h
              | true =>
                rw [hb] at h
                dsimp only at h
                cases hn : setM b.cont b.cont.width r c cs with
                | none => rw [hn] at h; cases h
                | some q =>
                  obtain ⟨k, bs'⟩ := q
                  rw [hn] at h
                  cases h
                  obtain ⟨ys, hcy, hry⟩ := AV.cellsOf_ok hc hy
                  obtain ⟨bs2, hn2, hbs2⟩ := setM_eq hn hbs
                  obtain ⟨w', e1, e2, e3⟩ := storeN_ok (P := P) cs 0 m b k bs2 w ys hm hlk hw hn2 hbs2 hry
                  refine ⟨w', ?_, e2, e3⟩
                  have hlen : ys.length = i.size := by rw [← hry.len]; exact Nat.eq_of_beq_eq_true hb
                  simp only [Instr.storeAt, Instr.sureAddr, Sem.run_bind, Sem.run_pure, Result.andThen_ok, storeVar, run_sizeOf hi, hcy]
                  rw [if_neg (by simp [hlen])]
                  simpa using e1
  · cases h
end
end Go.Proofs.Ytmjpikkloofakaa

namespace Go.Proofs.Ytmjpikkloofakaa
open Go Go.RowKit

def intsOf (k : IntKind) : List AV → Option (List Int)
  | [] => some []
  | .val (.int k' x) :: r => match decide (k = k') with
    | true => match intsOf k r with
      | some xs => some (x :: xs)
      | none => none
    | false => none
  | _ => none
def boolsOf : List AV → Option (List Bool)
  | [] => some []
  | .val (.bool x) :: r => match boolsOf r with
    | some xs => some (x :: xs)
    | none => none
  | _ => none
def strsOf : List AV → Option (List ByteArray)
  | [] => some []
  | .val (.string x) :: r => match strsOf r with
    | some xs => some (x :: xs)
    | none => none
  | _ => none
theorem intsOf_eq {k : IntKind} : ∀ {l : List AV} {xs : List Int}, intsOf k l = some xs → l = xs.map fun z => .val (.int k z)
  | [], xs, h => by cases h; rfl
  | a :: l, xs, h => by
    unfold intsOf at h
    split at h
    · rename_i h1; cases h1
    · rename_i k' x r h1
      cases h1
      by_cases hk : k = k'
      · subst hk
        simp only [decide_true] at h
        split at h
        · rename_i ys h2
          cases h
          rw [intsOf_eq h2]; rfl
        · cases h
      · simp [hk] at h
    · cases h
theorem boolsOf_eq : ∀ {l : List AV} {xs : List Bool}, boolsOf l = some xs → l = xs.map fun z => .val (.bool z)
  | [], xs, h => by cases h; rfl
  | a :: l, xs, h => by
    unfold boolsOf at h
    split at h
    · rename_i h1; cases h1
    · rename_i x r h1
      cases h1
      split at h
      · rename_i ys h2
        cases h
        rw [boolsOf_eq h2]; rfl
      · cases h
    · cases h
theorem strsOf_eq : ∀ {l : List AV} {xs : List ByteArray}, strsOf l = some xs → l = xs.map fun z => .val (.string z)
  | [], xs, h => by cases h; rfl
  | a :: l, xs, h => by
    unfold strsOf at h
    split at h
    · rename_i h1; cases h1
    · rename_i x r h1
      cases h1
      split at h
      · rename_i ys h2
        cases h
        rw [strsOf_eq h2]; rfl
      · cases h
    · cases h
/-- Cells put behind the first n. -/
def Col.app : Col → Nat → List AV → Option (Col × Bool)
  | .ints k zs, n, cs => match intsOf k cs with
    | some xs => some (.ints k (zs.take n ++ xs), decide (n ≤ zs.length))
    | none => none
  | .bools zs, n, cs => match boolsOf cs with
    | some xs => some (.bools (zs.take n ++ xs), decide (n ≤ zs.length))
    | none => none
  | .strs zs, n, cs => match strsOf cs with
    | some xs => some (.strs (zs.take n ++ xs), decide (n ≤ zs.length))
    | none => none
theorem getD_app {α : Type} {zs xs : List α} {n r : Nat} {d : α} (hn : n ≤ zs.length) : (r < n → (zs.take n ++ xs).getD r d = zs.getD r d) ∧ (¬ r < n → (zs.take n ++ xs).getD r d = xs.getD (r - n) d) := by
  constructor
  · intro hr
    rw [List.getD_eq_getElem?_getD, List.getD_eq_getElem?_getD, List.getElem?_append_left (by simp; omega), List.getElem?_take_of_lt hr]
  · intro hr
    rw [List.getD_eq_getElem?_getD, List.getD_eq_getElem?_getD, List.getElem?_append_right (by simp; omega)]
    simp [Nat.min_eq_left hn]
theorem Col.app_at {c c' : Col} {n r : Nat} {cs : List AV} {a : AV} (h : c.app n cs = some (c', true)) (ha : c'.at r = (a, true)) : (r < n ∧ c.at r = (a, true)) ∨ (∃ j, cs[j]? = some a ∧ r = n + j) := by
  cases c with
  | ints k zs =>
    simp only [Col.app] at h
    split at h
    · rename_i xs hxs
      simp only [Option.some.injEq, Prod.mk.injEq, decide_eq_true_eq] at h
      obtain ⟨rfl, hn⟩ := h
      simp only [Col.at, Prod.mk.injEq, decide_eq_true_eq, List.length_append, List.length_take, Nat.min_eq_left hn] at ha
      obtain ⟨rfl, hr⟩ := ha
      by_cases hlt : r < n
      · refine .inl ⟨hlt, ?_⟩
        simp only [Col.at, (getD_app hn).1 hlt]
        rw [decide_eq_true (by omega)]
      · refine .inr ⟨r - n, ?_, by omega⟩
        rw [intsOf_eq hxs, (getD_app hn).2 hlt]
        simp [show r - n < xs.length by omega]
    · cases h
  | bools zs =>
    simp only [Col.app] at h
    split at h
    · rename_i xs hxs
      simp only [Option.some.injEq, Prod.mk.injEq, decide_eq_true_eq] at h
      obtain ⟨rfl, hn⟩ := h
      simp only [Col.at, Prod.mk.injEq, decide_eq_true_eq, List.length_append, List.length_take, Nat.min_eq_left hn] at ha
      obtain ⟨rfl, hr⟩ := ha
      by_cases hlt : r < n
      · refine .inl ⟨hlt, ?_⟩
        simp only [Col.at, (getD_app hn).1 hlt]
        rw [decide_eq_true (by omega)]
      · refine .inr ⟨r - n, ?_, by omega⟩
        rw [boolsOf_eq hxs, (getD_app hn).2 hlt]
        simp [show r - n < xs.length by omega]
    · cases h
  | strs zs =>
    simp only [Col.app] at h
    split at h
    · rename_i xs hxs
      simp only [Option.some.injEq, Prod.mk.injEq, decide_eq_true_eq] at h
      obtain ⟨rfl, hn⟩ := h
      simp only [Col.at, Prod.mk.injEq, decide_eq_true_eq, List.length_append, List.length_take, Nat.min_eq_left hn] at ha
      obtain ⟨rfl, hr⟩ := ha
      by_cases hlt : r < n
      · refine .inl ⟨hlt, ?_⟩
        simp only [Col.at, (getD_app hn).1 hlt]
        rw [decide_eq_true (by omega)]
      · refine .inr ⟨r - n, ?_, by omega⟩
        rw [strsOf_eq hxs, (getD_app hn).2 hlt]
        simp [show r - n < xs.length by omega]
    · cases h
def colsApp : List Col → Nat → List AV → Option (List Col × List Bool)
  | [], _, [] => some ([], [])
  | c :: cols, n, a :: as => match c.app n [a] with
    | some (c', b) => match colsApp cols n as with
      | some (cols', bs) => some (c' :: cols', b :: bs)
      | none => none
    | none => none
  | _, _, _ => none
theorem colsApp_ok : ∀ {cols cols' : List Col} {n : Nat} {cs : List AV} {bs : List Bool}, colsApp cols n cs = some (cols', bs) → bs.all id = true →
    cols'.length = cols.length ∧ ∀ (c : Nat) (cl' : Col), cols'[c]? = some cl' → ∃ cl a, cols[c]? = some cl ∧ cs[c]? = some a ∧ cl.app n [a] = some (cl', true)
  | [], cols', n, [], bs, h, hb => by cases h; exact ⟨rfl, fun c cl' hc => by simp at hc⟩
  | [], cols', n, a :: as, bs, h, hb => by cases h
  | cl :: cols, cols', n, [], bs, h, hb => by cases h
  | cl :: cols, cols', n, a :: as, bs, h, hb => by
    simp only [colsApp] at h
    split at h
    · rename_i c1 b1 h1
      split at h
      · rename_i cols1 bs1 h2
        cases h
        obtain ⟨hb1, hb2⟩ := all_cons hb
        obtain ⟨g1, g2⟩ := colsApp_ok h2 hb2
        refine ⟨by simp [g1], fun c cl' hc => ?_⟩
        cases c with
        | zero =>
          simp at hc
          subst hc
          exact ⟨cl, a, rfl, rfl, by rw [h1, hb1]⟩
        | succ c =>
          simp at hc
          obtain ⟨cl1, a1, e1, e2, e3⟩ := g2 c cl' hc
          exact ⟨cl1, a1, by simpa using e1, by simpa using e2, e3⟩
      · cases h
    · cases h
def Cont.app (k : Cont) (z n : Nat) (cs : List AV) : Option (Cont × List Bool) := match k with
  | .cells l => some (.cells (l.take (n * z) ++ cs), [decide (n * z ≤ l.length)])
  | .col c => match Nat.beq z 1 with
    | true => match c.app n cs with
      | some (c', b) => some (.col c', [b])
      | none => none
    | false => none
  | .rows cols => match Nat.beq z cols.length with
    | true => match colsApp cols n cs with
      | some (cols', bs) => some (.rows cols', bs)
      | none => none
    | false => none
  | .obj _ => none
theorem Cont.app_plain {k k' : Cont} {z n : Nat} {cs : List AV} {bs : List Bool} (h : k.app z n cs = some (k', bs)) : k'.plain = true := by
  cases k with
  | cells l => simp only [Cont.app, Option.some.injEq, Prod.mk.injEq] at h; rw [← h.1]; rfl
  | col c0 =>
    simp only [Cont.app] at h
    split at h
    · split at h
      · cases h; rfl
      · cases h
    · cases h
  | rows cs =>
    simp only [Cont.app] at h
    split at h
    · split at h
      · cases h; rfl
      · cases h
    · cases h
  | obj q => cases h
theorem Cont.app_rel {ρ : Rho} {nx : Nat} {k k' : Cont} {z n : Nat} {cs : List AV} {bs : List Bool} {xs : List Value} {cell cell' : Nat → Option Value} (h : k.app z n cs = some (k', bs)) (hb : bs.all id = true) (hr : k.rel ρ nx cell) (hx : AV.rels ρ nx cs xs)
    (h1 : ∀ j, j < n * z → ∀ x, cell j = some x → cell' j = some x) (h2 : ∀ j x, xs[j]? = some x → cell' (n * z + j) = some x) : k'.rel ρ nx cell' ∧ k'.width = k.width := by
  cases k with
  | cells l =>
    simp only [Cont.app, Option.some.injEq, Prod.mk.injEq] at h
    obtain ⟨rfl, rfl⟩ := h
    simp at hb
    refine ⟨fun r c a ha => ?_, rfl⟩
    cases c <;> simp only [Cont.at] at ha
    · split at ha
      · rename_i v hv
        cases ha
        refine ⟨by simp [Cont.width], ?_⟩
        simp only [Cont.width, Nat.mul_one, Nat.add_zero]
        by_cases hlt : r < n * z
        · rw [List.getElem?_append_left (by simp; omega), List.getElem?_take_of_lt hlt] at hv
          obtain ⟨_, x, g1, g2⟩ := hr r 0 a (by simp only [Cont.at, hv])
          exact ⟨x, h1 r hlt x (by simpa [Cont.width] using g1), g2⟩
        · rw [List.getElem?_append_right (by simp; omega)] at hv
          simp only [List.length_take, Nat.min_eq_left hb] at hv
          obtain ⟨x, g1, g2⟩ := hx.at_ hv
          have := h2 (r - n * z) x g1
          rw [show n * z + (r - n * z) = r by omega] at this
          exact ⟨x, this, g2⟩
      · cases ha
    · cases ha
  | col c0 =>
    simp only [Cont.app] at h
    split at h
    · rename_i hz
      have hz := Nat.eq_of_beq_eq_true hz
      subst hz
      split at h
      · rename_i c1 b1 hc
        cases h
        have hb1 : b1 = true := by simpa using hb
        subst hb1
        refine ⟨fun r c a ha => ?_, rfl⟩
        cases c <;> simp only [Cont.at] at ha <;> try cases ha
        simp only [Nat.mul_one] at h1 h2
        refine ⟨by simp [Cont.width], ?_⟩
        simp only [Cont.width, Nat.mul_one, Nat.add_zero]
        rcases Col.app_at hc (Option.some.inj ha) with ⟨hlt, hat⟩ | ⟨j, hj, rfl⟩
        · obtain ⟨_, x, g1, g2⟩ := hr r 0 a (by simp only [Cont.at, hat])
          exact ⟨x, h1 r hlt x (by simpa [Cont.width] using g1), g2⟩
        · obtain ⟨x, g1, g2⟩ := hx.at_ hj
          exact ⟨x, h2 j x g1, g2⟩
      · cases h
    · cases h
  | rows cols =>
    simp only [Cont.app] at h
    split at h
    · rename_i hz
      have hz := Nat.eq_of_beq_eq_true hz
      subst hz
      split at h
      · rename_i cols1 bs1 hc
        cases h
        obtain ⟨g1, g2⟩ := colsApp_ok hc hb
        refine ⟨fun r c a ha => ?_, by simp [Cont.width, g1]⟩
        simp only [Cont.at] at ha
        split at ha
        · rename_i cl' hcl
          obtain ⟨cl, a1, hcl1, ha1, happ⟩ := g2 c cl' hcl
          have hcw : c < cols.length := (List.getElem?_eq_some_iff.1 hcl1).1
          refine ⟨by simp [Cont.width, g1]; exact hcw, ?_⟩
          simp only [Cont.width, g1]
          rcases Col.app_at happ (Option.some.inj ha) with ⟨hlt, hat⟩ | ⟨j, hj, rfl⟩
          · obtain ⟨_, x, e1, e2⟩ := hr r c a (by simp only [Cont.at, hcl1, hat])
            have hm : r * cols.length + cols.length ≤ n * cols.length := by
              have := Nat.mul_le_mul_right cols.length (show r + 1 ≤ n from hlt)
              rw [Nat.add_mul, Nat.one_mul] at this
              exact this
            exact ⟨x, h1 _ (by omega) x (by simpa [Cont.width] using e1), e2⟩
          · cases j with
            | succ j => simp at hj
            | zero =>
              simp at hj
              subst hj
              obtain ⟨x, e1, e2⟩ := hx.at_ ha1
              exact ⟨x, h2 c x e1, e2⟩
        · cases ha
      · cases h
    · cases h
  | obj q => cases h
/-- A slice of which nothing is known yet. -/
def Col.empty : AV → Option Col
  | .val (.int k _) => some (.ints k [])
  | .val (.bool _) => some (.bools [])
  | .val (.string _) => some (.strs [])
  | _ => none
def empties : List AV → Option (List Col)
  | [] => some []
  | a :: r => match Col.empty a with
    | some c => match empties r with
      | some cs => some (c :: cs)
      | none => none
    | none => none
def nilCont (z : Nat) (cs : List AV) : Cont := match Nat.beq z 1 with
  | true => match cs with
    | a :: _ => match Col.empty a with
      | some c => .col c
      | none => .cells []
    | [] => .cells []
  | false => match Nat.beq cs.length z with
    | true => match empties cs with
      | some cols => .rows cols
      | none => .cells []
    | false => .cells []
theorem Col.empty_at {a a' : AV} {c : Col} {r : Nat} (h : Col.empty a = some c) : c.at r ≠ (a', true) := by
  unfold Col.empty at h
  split at h <;> cases h <;> simp [Col.at]
theorem empties_at : ∀ {l : List AV} {cs : List Col} {i : Nat} {c : Col} {r : Nat} {a' : AV}, empties l = some cs → cs[i]? = some c → c.at r ≠ (a', true)
  | [], cs, i, c, r, a', h, hc => by cases h; simp at hc
  | a :: l, cs, i, c, r, a', h, hc => by
    simp only [empties] at h
    split at h
    · rename_i c1 h1
      split at h
      · rename_i cs1 h2
        cases h
        cases i with
        | zero => simp at hc; subst hc; exact Col.empty_at h1
        | succ i => simp at hc; exact empties_at h2 hc
      · cases h
    · cases h
theorem nilCont_at {z : Nat} {cs : List AV} {r c : Nat} {a : AV} : (nilCont z cs).at r c ≠ some (a, true) := by
  have hcells : (Cont.cells []).at r c ≠ some (a, true) := by
    cases c <;> simp [Cont.at]
  unfold nilCont
  split
  · split
    · split
      · rename_i hc
        cases c <;> simp only [Cont.at] <;> try exact fun h => by cases h
        exact fun h => Col.empty_at hc (Option.some.inj h)
      · exact hcells
    · exact hcells
  · split
    · split
      · rename_i cols hc
        simp only [Cont.at]
        intro h
        split at h
        · rename_i cl hcl
          exact empties_at hc hcl (Option.some.inj h)
        · cases h
      · exact hcells
    · exact hcells
def allScalar : List AV → Bool
  | [] => true
  | a :: r => match a.scalar with
    | true => allScalar r
    | false => false
theorem allScalar_rels {ρ : Rho} {nx : Nat} : ∀ {l : List AV} {xs : List Value}, allScalar l = true → AV.rels ρ nx l xs → ∀ u ∈ xs, u.oneCell' = true
  | [], xs, _, h, u, hu => by simp only [AV.rels] at h; subst h; simp at hu
  | a :: l, xs, hs, h, u, hu => by
    simp only [AV.rels] at h
    obtain ⟨y, ys, rfl, h1, h2⟩ := h
    simp only [allScalar] at hs
    split at hs
    · rename_i ha
      rcases List.mem_cons.1 hu with rfl | hu
      · exact AV.scalar_rel ha h1
      · exact allScalar_rels hs h2 u hu
    · cases hs
def Cont.isRow : Cont → Bool
  | .col _ => true
  | .rows _ => true
  | _ => false
/-- What is put behind. -/
def newsA (m : MS) (b : AV) (z : Nat) : Option (Nat × List AV) := match b with
  | .sl _ l w r s cnt _ => match Nat.beq z (s * w) with
    | true => match look m.bl l with
      | some bk => match Nat.beq bk.cont.width w && !bk.cont.isRow with
        | true => match loadN bk.cont w r 0 (cnt * z) 0 with
          | some (cs, []) => match allScalar cs with
            | true => some (cnt, cs)
            | false => none
          | _ => none
        | false => none
      | none => none
    | false => none
  | _ => none
section
variable {P : Program} {ρ : Rho} {m : MS} {w : World} {nx : Nat}
theorem cells_vals {cell : Nat → Option Value} : ∀ (l : List AV) (o : Nat), (∀ j a, l[j]? = some a → ∃ x, cell (o + j) = some x ∧ AV.rel ρ nx a x) → ∃ xs : List Value, AV.rels ρ nx l xs ∧ ∀ j x, xs[j]? = some x → cell (o + j) = some x
  | [], o, _ => ⟨[], by simp [AV.rels], fun j x h => by simp at h⟩
  | a :: l, o, h => by
    obtain ⟨x, h1, h2⟩ := h 0 a rfl
    obtain ⟨xs, g1, g2⟩ := cells_vals l (o + 1) (fun j a' hj => by
      obtain ⟨y, e1, e2⟩ := h (j + 1) a' (by simpa using hj)
      exact ⟨y, by rw [← e1]; congr 1; omega, e2⟩)
    refine ⟨x :: xs, by simp only [AV.rels]; exact ⟨x, xs, rfl, h2, g1⟩, fun j y hj => ?_⟩
    cases j with
    | zero => simp at hj; subst hj; simpa using h1
    | succ j =>
      simp at hj
      have := g2 j y hj
      rw [← this]; congr 1; omega
theorem Cont.cells_take {cs : List AV} {cell : Nat → Option Value} (h : (Cont.cells cs).rel ρ nx cell) (n : Nat) : ∃ xs : List Value, AV.rels ρ nx (cs.take n) xs ∧ ∀ j x, xs[j]? = some x → cell j = some x := by
  obtain ⟨xs, h1, h2⟩ := cells_vals (ρ := ρ) (nx := nx) (cell := cell) (cs.take n) 0 (fun j a hj => by
    have hj' : cs[j]? = some a := by
      rw [List.getElem?_take] at hj
      split at hj
      · exact hj
      · cases hj
    obtain ⟨_, x, g1, g2⟩ := h j 0 a (by simp only [Cont.at, hj'])
    exact ⟨x, by simpa [Cont.width] using g1, g2⟩)
  exact ⟨xs, h1, fun j x hj => by simpa using h2 j x hj⟩
theorem newsA_ok {b : AV} {z cnt : Nat} {cs : List AV} {y : Value} (h : newsA m b z = some (cnt, cs)) (h0 : 0 < cnt) (hm : MRel ρ m w) (hy : AV.rel ρ m.nx b y) :
    ∃ a c news, y = .slice (some a) cnt c ∧ news.length = cnt * z ∧ (∀ j u, news[j]? = some u → w.cell? (a.add j) = some u) ∧ (∀ u ∈ news, u.oneCell' = true) ∧ AV.rels ρ m.nx cs news := by
  unfold newsA at h
  split at h
  · rename_i nn l wd r s n cap
    split at h
    · rename_i hz
      have hz := Nat.eq_of_beq_eq_true hz
      split at h
      · rename_i bk hl
        split at h
        · rename_i hw
          have hw := Nat.eq_of_beq_eq_true (Bool.and_eq_true_iff.1 hw).1
          subst hw
          split at h
          · rename_i cs' hld
            split at h
            · rename_i hsc
              cases h
              simp only [AV.rel] at hy
              obtain ⟨_, A, c, rfl, _, hA, _⟩ := hy
              have hA := hA h0
              subst hA
              obtain ⟨news, g1, g2, g3⟩ := loadN_ok (hm.blk _ _ hl).2.rel r 0 _ _ _ _ hld rfl
              refine ⟨_, c, news, rfl, g2, fun j u hj => ?_, allScalar_rels hsc g1, g1⟩
              rw [add_none]
              simpa [Nat.add_assoc] using g3 j u hj
            · cases h
          · cases h
        · cases h
      · cases h
    · cases h
  · cases h
def strideOf (w z : Nat) : Nat := match Nat.beq w 1 with
  | true => z
  | false => 1
def appendA (P : Program) (m : MS) (t : TypeId) (a b : AV) : Option (AV × MS × List Bool) := match P.underlying t with
  | some (.slice e) => match P.info? e with
    | some i => match i.zero with
      | some zv => match Nat.beq zv.cells.size i.size with
        | true => match newsA m b i.size with
          | some (cnt, cs) => match Nat.blt 0 cnt && Nat.blt 0 i.bytes with
            | true => match a with
              | .val (.slice none 0 0) => match (nilCont i.size cs).app i.size 0 cs with
                | some (k, bs) => match Nat.beq (strideOf k.width i.size * k.width) i.size with
                  | true => some (.sl true m.nx k.width 0 (strideOf k.width i.size) cnt none, ⟨(m.nx, some ⟨true, true, k⟩) :: m.bl, m.nx + 1⟩, decide (cnt * i.bytes ≤ 140737488355328) :: bs)
                  | false => none
                | none => none
              | .sl _ l wd 0 s n none => match look m.bl l with
                | some ⟨true, true, k⟩ => match Nat.beq (s * wd) i.size && Nat.beq k.width wd with
                  | true => match k.app i.size n cs with
                    | some (k', bs) => some (.sl true m.nx wd 0 s (n + cnt) none, ⟨(m.nx, some ⟨true, true, k'⟩) :: upd m.bl l none, m.nx + 1⟩, decide (0 < n) :: decide ((n + cnt) * i.bytes ≤ 140737488355328) :: bs)
                    | none => none
                  | false => none
                | _ => none
              | .sl _ l 1 0 s n (some c) => match look m.bl l with
                | some ⟨_, _, .cells l0⟩ => match Nat.beq s i.size && (Nat.blt 0 n && (Nat.blt c (n + cnt) && Nat.ble (n * i.size) l0.length)) with
                  | true => match (nilCont i.size (l0.take (n * i.size) ++ cs)).app i.size 0 (l0.take (n * i.size) ++ cs) with
                    | some (k, bs) => match Nat.beq (strideOf k.width i.size * k.width) i.size with
                      | true => some (.sl true m.nx k.width 0 (strideOf k.width i.size) (n + cnt) none, ⟨(m.nx, some ⟨true, true, k⟩) :: m.bl, m.nx + 1⟩, decide ((n + cnt) * i.bytes ≤ 140737488355328) :: bs)
                      | false => none
                    | none => none
                  | false => none
                | _ => none
              | _ => none
            | false => none
          | none => none
        | false => none
      | none => none
    | none => none
  | _ => none
/-- One operation that makes or writes memory, under what must be so. -/
theorem run_append_room' (t ty e e' : TypeId) (i : TypeInfo) (ht : P.underlying t = some (.slice e)) (hi : P.info? e = some i)
    (g sLen sCap : Nat) (cur : Array Value) (hg : w.heap[g]? = some (.cells cur e' (0, 0)))
    (a : Addr) (n c : Nat) (news : List Value) (hl : news.length = n * i.size) (hnews : ∀ j u, news[j]? = some u → w.cell? (a.add j) = some u) (h1 : ∀ u ∈ news, u.oneCell' = true)
    (hroom : sLen + n ≤ sCap) (hfit : sLen * i.size + news.length ≤ cur.size) :
    (Builtin.append_ #[t, t] ty #[.slice (some ⟨g, 0, none⟩) sLen sCap, .slice (some a) n c]).run P w =
      .ok (.slice (some ⟨g, 0, none⟩) (sLen + n) sCap) (w.setRow g (cur.toList.take (sLen * i.size) ++ news ++ cur.toList.drop (sLen * i.size + news.length)).toArray) := by
  have hf := run_firstCells_some (P := P) w i.size n a n c news hl hnews
  have hst := run_storeCells_at P g (sLen * i.size) e' news 0 cur w hg (by simpa using hfit) h1
  simp only [Nat.add_zero] at hst
  simp [Builtin.append_, run_underlying ht, sizeOf, typeInfo, hi, Builtin.lenOf, hroom, hf, Addr.add_lit, hst]
/-- A block of the call's own under a new name. -/
theorem MRel.turnI {l : Nat} {b bn : ABlk} {i' : LI} {w' : World} (hib : i'.b = (ρ l).b) (hdp : bn.cont.nested = true → ∀ g, Wr ρ m g → i'.tg.testBit g = false) (h : MRel ρ m w) (hl : look m.bl l = some b) (hw : b.wr = true) (hsz : w'.heap.size = w.heap.size) (hos : w'.os = w.os) (htp : w'.tape = w.tape) (hout : OutLe w w')
    (hoth : ∀ g, g ≠ (ρ l).b → w'.heap[g]? = w.heap[g]?) (hok : bn.ok ρ m.nx i' w') :
    MRel (ρ.new m.nx i') ⟨(m.nx, some bn) :: upd m.bl l none, m.nx + 1⟩ w' ∧ Moves m.nx ρ (ρ.new m.nx i') m ⟨(m.nx, some bn) :: upd m.bl l none, m.nx + 1⟩ w w' := by
  have hext : ∀ j, j < m.nx → (ρ.new m.nx i') j = ρ j := fun j hj => by unfold Rho.new; rw [if_neg (by omega)]
  have hself : (ρ.new m.nx i') m.nx = i' := by simp [Rho.new]
  have key : ∀ j b', look ((m.nx, some bn) :: upd m.bl l none) j = some b' → (j = m.nx ∧ b' = bn) ∨ (j < m.nx ∧ j ≠ l ∧ look m.bl j = some b') := fun j b' hj => by
    rw [look_cons] at hj
    split at hj
    · rename_i e; cases hj; exact .inl ⟨e.symm, rfl⟩
    · rw [look_upd] at hj
      split at hj
      · cases hj
      · rename_i e; exact .inr ⟨(h.blk j b' hj).1, Ne.symm e, hj⟩
  refine ⟨⟨fun j b' hj => ?_, fun j b1 j' b2 h1 h2 hw1 hne hnv => ?_, fun j b1 j' b2 h1 h2 hw1 hn2 => ?_⟩, ⟨hext, Nat.le_succ _, hos, htp, hout, by omega, fun g hg hn => hoth g (fun e => hn ⟨l, b, hl, hw, e.symm⟩), fun g ⟨j, b', h1, h2, h3⟩ => .inl ?_⟩⟩
  · rcases key j b' hj with ⟨rfl, rfl⟩ | ⟨hlt, hne, hj⟩
    · refine ⟨Nat.lt_succ_self _, ?_⟩
      rw [hself]
      exact ⟨hok.lt, hok.rel.ext hext (Nat.le_succ _) (fun _ _ hx => hx), hok.free, hok.room, fun q hq => (hok.obj q hq).ext hext (Nat.le_succ _) rfl (Nat.le_refl _) (fun _ _ _ => rfl)⟩
    · refine ⟨Nat.lt_succ_of_lt hlt, ?_⟩
      rw [hext j hlt]
      by_cases hv : b'.void
      · exact ABlk.ok.any hv _
      · exact ((h.blk j b' hj).2).ext hext (Nat.le_succ _) (by omega) (hoth _ (h.apart l b j b' hl hj hw hne hv)) fun hn' g hg => hoth g (fun e' => by rw [e', h.deep l b j b' hl hj hw hn'] at hg; cases hg)
  · rcases key j b1 h1 with ⟨rfl, rfl⟩ | ⟨hlt, hjl, hj⟩
    · rcases key j' b2 h2 with ⟨rfl, _⟩ | ⟨hlt', hjl', hj'⟩
      · exact absurd rfl hne
      · rw [hself, hext j' hlt', hib]
        exact h.apart l b j' b2 hl hj' hw hjl' hnv
    · rcases key j' b2 h2 with ⟨rfl, rfl⟩ | ⟨hlt', hjl', hj'⟩
      · rw [hself, hext j hlt, hib]
        exact h.apart j b1 l b hj hl hw1 (Ne.symm hjl) (wr_not_void hw)
      · rw [hext j hlt, hext j' hlt']
        exact h.apart j b1 j' b2 hj hj' hw1 hne hnv
  · have g1 : ∃ j0 a0, look m.bl j0 = some a0 ∧ a0.wr = true ∧ ((ρ.new m.nx i') j).b = (ρ j0).b := by
      rcases key j b1 h1 with ⟨rfl, rfl⟩ | ⟨hlt, hjl, hj⟩
      · exact ⟨l, b, hl, hw, by rw [hself, hib]⟩
      · exact ⟨j, b1, hj, hw1, by rw [hext j hlt]⟩
    obtain ⟨j0, a0, p1, p2, p3⟩ := g1
    rw [p3]
    rcases key j' b2 h2 with ⟨rfl, rfl⟩ | ⟨hlt', hjl', hj'⟩
    · rw [hself]
      exact hdp hn2 _ ⟨j0, a0, p1, p2, rfl⟩
    · rw [hext j' hlt']
      exact h.deep j0 a0 j' b2 p1 hj' p2 hn2
  · rcases key j b' h1 with ⟨rfl, rfl⟩ | ⟨hlt, hjl, hj⟩
    · rw [hself, hib] at h3
      exact ⟨l, b, hl, hw, h3⟩
    · rw [hext j hlt] at h3
      exact ⟨j, b', hj, h2, h3⟩
theorem MRel.turnG {l : Nat} {b bn : ABlk} {w' : World} (hnn : bn.cont.nested = false) (h : MRel ρ m w) (hl : look m.bl l = some b) (hw : b.wr = true) (hsz : w'.heap.size = w.heap.size) (hos : w'.os = w.os) (htp : w'.tape = w.tape) (hout : OutLe w w')
    (hoth : ∀ g, g ≠ (ρ l).b → w'.heap[g]? = w.heap[g]?) (hok : bn.ok ρ m.nx (ρ l) w') :
    MRel (ρ.new m.nx (ρ l)) ⟨(m.nx, some bn) :: upd m.bl l none, m.nx + 1⟩ w' ∧ Moves m.nx ρ (ρ.new m.nx (ρ l)) m ⟨(m.nx, some bn) :: upd m.bl l none, m.nx + 1⟩ w w' := MRel.turnI rfl (fun h => by rw [hnn] at h; cases h) h hl hw hsz hos htp hout hoth hok
theorem MRel.turn {l : Nat} {b : ABlk} {k' : Cont} {w' : World} (hnn : k'.nested = false) (h : MRel ρ m w) (hl : look m.bl l = some b) (hw : b.wr = true) (hsz : w'.heap.size = w.heap.size) (hos : w'.os = w.os) (htp : w'.tape = w.tape) (hout : OutLe w w')
    (hoth : ∀ g, g ≠ (ρ l).b → w'.heap[g]? = w.heap[g]?) (hok : (⟨true, true, k'⟩ : ABlk).ok ρ m.nx (ρ l) w') :
    MRel (ρ.new m.nx (ρ l)) ⟨(m.nx, some ⟨true, true, k'⟩) :: upd m.bl l none, m.nx + 1⟩ w' ∧ Moves m.nx ρ (ρ.new m.nx (ρ l)) m ⟨(m.nx, some ⟨true, true, k'⟩) :: upd m.bl l none, m.nx + 1⟩ w w' := MRel.turnG hnn h hl hw hsz hos htp hout hoth hok
theorem look_sub {bl bl' : List (Nat × Option ABlk)} {k : Nat} {o : Option ABlk} (h : ∀ l b, look bl' l = some b → look bl l = some b) : ∀ l b, look ((k, o) :: bl') l = some b → look ((k, o) :: bl) l = some b := fun l b hl => by
  rw [look_cons] at hl ⊢
  split
  · rename_i e; rw [if_pos e] at hl; exact hl
  · rename_i e; rw [if_neg e] at hl; exact h l b hl
theorem upd_sub {bl : List (Nat × Option ABlk)} {k : Nat} : ∀ l b, look (upd bl k none) l = some b → look bl l = some b := fun l b hl => by
  rw [look_upd] at hl
  split at hl
  · cases hl
  · exact hl
/-- A new row of cells. -/
theorem fresh_row {k : Cont} {e : TypeId} {arr : Array Value} {wd s n c : Nat} {bl' : List (Nat × Option ABlk)} (hm : MRel ρ m w) (hr : k.rel ρ m.nx (fun j => arr[j]?)) (hsz : c * (s * wd) ≤ arr.size) (hn : n ≤ c) (hbl : ∀ l b, look bl' l = some b → look m.bl l = some b) (hp : k.plain = true) :
    ∃ ρ', AV.rel ρ' (m.nx + 1) (.sl true m.nx wd 0 s n none) (.slice (some ⟨w.heap.size, 0, none⟩) n c) ∧ MRel ρ' ⟨(m.nx, some ⟨true, true, k⟩) :: bl', m.nx + 1⟩ (w.alloc (.cells arr e)) ∧ Moves m.nx ρ ρ' m ⟨(m.nx, some ⟨true, true, k⟩) :: bl', m.nx + 1⟩ w (w.alloc (.cells arr e)) := by
  obtain ⟨h1, h2⟩ := hm.alloc (b := ⟨true, true, k⟩) (cs := arr) (t := e) (cap := arr.size) hr (fun _ => ⟨rfl, Nat.le_refl _⟩) hp
  refine ⟨_, ?_, h1.less (Nat.le_refl _) (look_sub hbl), ⟨h2.ext, h2.nx, h2.os, h2.tape, h2.output, h2.size, h2.keep, fun g ⟨l, b, g1, g2, g3⟩ => h2.fresh g ⟨l, b, look_sub hbl l b g1, g2, g3⟩⟩⟩
  simp only [AV.rel, Rho.new, if_true]
  exact ⟨Nat.lt_succ_self _, _, c, rfl, hn, fun _ => by simp, fun _ => rfl, by omega⟩
theorem fresh_drew {k : Cont} {e : TypeId} {arr : Array Value} {wd s n c : Nat} {bl' : List (Nat × Option ABlk)} (hm : MRel ρ m w) (hr : k.rel ρ m.nx (fun j => arr[j]?)) (hsz : c * (s * wd) ≤ arr.size) (hn : n ≤ c) (hbl : ∀ l b, look bl' l = some b → look m.bl l = some b) (hp : k.plain = true) :
    ∃ ρ', AV.rel ρ' (m.nx + 1) (.sl true m.nx wd 0 s n none) (.slice (some ⟨w.heap.size, 0, none⟩) n c) ∧ MRel ρ' ⟨(m.nx, some ⟨true, true, k⟩) :: bl', m.nx + 1⟩ (w.drew.alloc (.cells arr e)) ∧ Moves m.nx ρ ρ' m ⟨(m.nx, some ⟨true, true, k⟩) :: bl', m.nx + 1⟩ w (w.drew.alloc (.cells arr e)) := by
  obtain ⟨ρ', h1, h2, h3⟩ := fresh_row (w := w.drew) (e := e) hm.drew hr hsz hn hbl hp
  exact ⟨ρ', h1, h2, (Moves.drew (Nat.le_refl _)).trans h3⟩
set_option maxHeartbeats 800000 in
theorem appendA_ok {t ty : TypeId} {a b v : AV} {m' : MS} {bs : List Bool} {x y : Value} (h : appendA P m t a b = some (v, m', bs)) (hm : MRel ρ m w) (hx : AV.rel ρ m.nx a x) (hy : AV.rel ρ m.nx b y) (hbs : bs.all id = true) : MemOk P (Builtin.append_ #[t, t] ty #[x, y]) ρ m w v m' := by
  unfold appendA at h
  split at h <;> try cases h
  rename_i e hu
  split at h <;> try cases h
  rename_i i hi
  split at h <;> try cases h
  rename_i zv hz
  split at h <;> try cases h
  rename_i hzs
  have hzs := Nat.eq_of_beq_eq_true hzs
  split at h <;> try cases h
  rename_i cnt cs hnews
  split at h <;> try cases h
  rename_i h01
  simp only [Bool.and_eq_true, Nat.blt_eq] at h01
  obtain ⟨h0, hby⟩ := h01
  obtain ⟨ad, c2, news, rfl, hl, hnw, hone, hrel⟩ := newsA_ok hnews h0 hm hy
  split at h
  · -- nil
    split at h <;> try cases h
    rename_i k bs' happ
    split at h <;> try cases h
    rename_i hst
    have hst := Nat.eq_of_beq_eq_true hst
    simp only [AV.rel] at hx
    subst hx
    obtain ⟨hb1, hb2⟩ := all_cons hbs
    have hb1 : cnt * i.bytes ≤ 140737488355328 := by simpa using hb1
    have hcnt : cnt ≤ cnt * i.bytes := Nat.le_mul_of_pos_right _ hby
    have hr := run_append_nil (P := P) w t ty e i zv hu hi hz ad cnt c2 news hl hnw h0 (by omega) (by omega)
    have hge := grownCap_ge w cnt 0 e
    obtain ⟨g1, _⟩ := Cont.app_rel (cell' := fun j => (news.toArray ++ Builtin.zeroCells zv.cells (grownCap w cnt 0 e - cnt))[j]?) happ hb2 (cell := fun _ => none) (fun r c a' ha' => absurd ha' nilCont_at) hrel (fun j hj => by omega) (fun j u hj => by
      rw [Nat.zero_mul, Nat.zero_add, Array.getElem?_append_left (by have := (List.getElem?_eq_some_iff.1 hj).1; simpa using this)]
      simpa using hj)
    obtain ⟨ρ', e1, e2, e3⟩ := fresh_drew (e := e) (wd := k.width) (s := strideOf k.width i.size) (n := cnt) (c := grownCap w cnt 0 e) (bl' := m.bl) hm g1 (by
      rw [hst, Array.size_append, size_zeroCells, hzs]
      simp only [List.size_toArray, hl, ← Nat.add_mul]
      exact Nat.mul_le_mul_right _ (by omega)) hge (fun _ _ h => h) (Cont.app_plain happ)
    exact ⟨ρ', _, _, hr, e1, e2, e3⟩
  · -- its own
    rename_i nn l wd s n
    split at h <;> try cases h
    rename_i k hlk
    split at h <;> try cases h
    rename_i hck
    rw [Bool.and_eq_true] at hck
    have hsw := Nat.eq_of_beq_eq_true hck.1
    have hwd := Nat.eq_of_beq_eq_true hck.2
    subst hwd
    split at h <;> try cases h
    rename_i k' bs' happ
    obtain ⟨hb0, hbs⟩ := all_cons hbs
    obtain ⟨hb1, hb2⟩ := all_cons hbs
    have hn0 : 0 < n := by simpa using hb0
    have hb1 : (n + cnt) * i.bytes ≤ 140737488355328 := by simpa using hb1
    have hcnt : n + cnt ≤ (n + cnt) * i.bytes := Nat.le_mul_of_pos_right _ hby
    simp only [AV.rel] at hx
    obtain ⟨hlx, A, c, rfl, hnc, hA, _, hcap⟩ := hx
    have hA := hA hn0
    subst hA
    obtain ⟨hlt, hok⟩ := hm.blk l _ hlk
    obtain ⟨_, ho, cur, e', hg, hcs⟩ := hok.room rfl
    rw [hsw] at hcap
    simp only [Nat.zero_mul, Nat.zero_add] at hcap
    have hold : ∀ j, j < n * i.size → cur[j]? = w.cell? ⟨(ρ l).b, (ρ l).o + j, none⟩ := fun j hj => by
      rw [ho]; simp [World.cell?, hg]
    have hns : n * i.size ≤ c * i.size := Nat.mul_le_mul_right _ hnc
    have ea : (⟨(ρ l).b, (ρ l).o + 0 * k.width, none⟩ : Addr) = ⟨(ρ l).b, 0, none⟩ := by rw [ho, Nat.zero_mul]
    rw [ea]
    by_cases hroom : n + cnt ≤ c
    · have hfit : n * i.size + news.length ≤ cur.size := by
        have : (n + cnt) * i.size ≤ c * i.size := Nat.mul_le_mul_right _ hroom
        rw [Nat.add_mul] at this
        omega
      have hr := run_append_room' (P := P) (w := w) t ty e e' i hu hi (ρ l).b n c cur hg ad cnt c2 news hl hnw hone hroom hfit
      have hlen : (cur.toList.take (n * i.size) ++ news ++ cur.toList.drop (n * i.size + news.length)).length = cur.size := by
        simp only [List.length_append, List.length_take, List.length_drop, Array.length_toList]
        omega
      have hrow := setRow_heap w (ρ l).b cur (cur.toList.take (n * i.size) ++ news ++ cur.toList.drop (n * i.size + news.length)).toArray e' (0, 0) hg
      obtain ⟨g1, g2⟩ := Cont.app_rel (cell' := fun j => (w.setRow (ρ l).b (cur.toList.take (n * i.size) ++ news ++ cur.toList.drop (n * i.size + news.length)).toArray).cell? ⟨(ρ l).b, (ρ l).o + j, none⟩) happ hb2 hok.rel hrel
        (fun j hj x hx => by
          have hx : w.cell? ⟨(ρ l).b, (ρ l).o + j, none⟩ = some x := hx
          rw [← hold j hj] at hx
          rw [ho]
          simp only [World.cell?, hrow, Nat.zero_add]
          simp only [List.append_assoc, List.getElem?_toArray]
          rw [List.getElem?_append_left (by simp; omega), List.getElem?_take_of_lt hj]
          simpa using hx)
        (fun j u hj => by
          have hjl := (List.getElem?_eq_some_iff.1 hj).1
          rw [ho]
          simp only [World.cell?, hrow, Nat.zero_add]
          simp only [List.append_assoc, List.getElem?_toArray]
          rw [List.getElem?_append_right (by simp; omega)]
          simp only [List.length_take, Array.length_toList, Nat.min_eq_left (show n * i.size ≤ cur.size by omega), Nat.add_sub_cancel_left]
          rw [List.getElem?_append_left hjl]
          exact hj)
      obtain ⟨e1, e2⟩ := MRel.turn (k' := k') (Cont.nested_plain (Cont.app_plain happ)) (w' := w.setRow (ρ l).b (cur.toList.take (n * i.size) ++ news ++ cur.toList.drop (n * i.size + news.length)).toArray) hm hlk rfl (by simp [World.setRow]) rfl rfl ⟨rfl, Nat.le_refl _⟩ (fun g hg => setRow_other w _ g _ hg)
        ⟨.inl (by
            rcases hok.lt with h | h
            · simpa [World.setRow] using h
            · exact absurd h (wr_not_void rfl)), g1, (fun _ j => by simp only [World.frozen?, hrow]; simp), (fun _ => ⟨rfl, ho, _, e', hrow, by rw [List.size_toArray, hlen]; exact hcs⟩), fun q hq => absurd hq (Cont.plain_ne (Cont.app_plain happ) q)⟩
      refine ⟨_, _, _, hr, ?_, e1, e2⟩
      simp only [AV.rel, Rho.new, if_true]
      refine ⟨Nat.lt_succ_self _, _, c, rfl, hroom, fun _ => by rw [ho]; simp, fun _ => rfl, ?_⟩
      rw [hsw]; omega
    · obtain ⟨olds, ho1, ho2⟩ : ∃ olds : List Value, olds.length = n * i.size ∧ ∀ j u, olds[j]? = some u → cur[j]? = some u := ⟨cur.toList.take (n * i.size), by simp; omega, fun j u hj => by
        rw [List.getElem?_take] at hj
        split at hj
        · simpa using hj
        · cases hj⟩
      have hr := run_append_grow (P := P) w t ty e i zv hu hi hz ⟨(ρ l).b, 0, none⟩ n c olds ho1 (fun j u hj => by
        rw [add_none, Nat.zero_add]; simp only [World.cell?, hg]; exact ho2 j u hj) ad cnt c2 news hl hnw (by omega) (by omega) (growslice_fits (by omega) hb1)
      have hge := grownCap_ge w (n + cnt) c e
      obtain ⟨g1, g2⟩ := Cont.app_rel (cell' := fun j => (olds.toArray ++ news.toArray ++ Builtin.zeroCells zv.cells (grownCap w (n + cnt) c e - (n + cnt)))[j]?) happ hb2 hok.rel hrel
        (fun j hj x hx => by
          have hx : w.cell? ⟨(ρ l).b, (ρ l).o + j, none⟩ = some x := hx
          rw [← hold j hj] at hx
          have : olds[j]? = some x := by
            have hjl : j < olds.length := by omega
            have h3 := ho2 j olds[j] (by simp [hjl])
            rw [hx] at h3
            cases h3
            simp [hjl]
          rw [Array.append_assoc, Array.getElem?_append_left (by simp; omega)]
          simpa using this)
        (fun j u hj => by
          have hjl := (List.getElem?_eq_some_iff.1 hj).1
          rw [Array.append_assoc, Array.getElem?_append_right (by simp; omega)]
          simp only [List.size_toArray, ho1, Nat.add_sub_cancel_left]
          rw [Array.getElem?_append_left (by simpa using hjl)]
          simpa using hj)
      obtain ⟨ρ', e1, e2, e3⟩ := fresh_drew (e := e) (wd := k.width) (s := s) (n := n + cnt) (c := grownCap w (n + cnt) c e) (bl' := upd m.bl l none) hm g1 (by
        rw [hsw]
        simp only [Array.size_append, size_zeroCells, hzs, List.size_toArray, ho1, hl, ← Nat.add_mul]
        exact Nat.mul_le_mul_right _ (by omega)) hge upd_sub (Cont.app_plain happ)
      exact ⟨ρ', _, _, hr, e1, e2, e3⟩
  · -- one that is full
    rename_i nn l s n c
    split at h <;> try cases h
    rename_i wr op l0 hlk
    split at h <;> try cases h
    rename_i hck
    simp only [Bool.and_eq_true, Nat.blt_eq, Nat.ble_eq] at hck
    obtain ⟨hs, hn0, hfull, hl0⟩ := hck
    have hs := Nat.eq_of_beq_eq_true hs
    subst hs
    split at h <;> try cases h
    rename_i k bs' happ
    split at h <;> try cases h
    rename_i hst
    have hst := Nat.eq_of_beq_eq_true hst
    obtain ⟨hb1, hb2⟩ := all_cons hbs
    have hb1 : (n + cnt) * i.bytes ≤ 140737488355328 := by simpa using hb1
    have hcnt : n + cnt ≤ (n + cnt) * i.bytes := Nat.le_mul_of_pos_right _ hby
    simp only [AV.rel] at hx
    obtain ⟨hlx, A, c', rfl, hnc, hA, _, hcap⟩ := hx
    have hA := hA hn0
    subst hA hcap
    obtain ⟨hlt, hok⟩ := hm.blk l _ hlk
    obtain ⟨olds, g1, g2⟩ := Cont.cells_take hok.rel (n * i.size)
    have ho1 : olds.length = n * i.size := by rw [← g1.len]; simp [Nat.min_eq_left hl0]
    have hr := run_append_grow (P := P) w t ty e i zv hu hi hz ⟨(ρ l).b, (ρ l).o + 0 * 1, none⟩ n c' olds ho1 (fun j u hj => by
      rw [add_none, Nat.zero_mul, Nat.add_zero]; exact g2 j u hj) ad cnt c2 news hl hnw (by omega) (by omega) (growslice_fits (by omega) hb1)
    have hge := grownCap_ge w (n + cnt) c' e
    obtain ⟨e0, _⟩ := Cont.app_rel (cell' := fun j => (olds.toArray ++ news.toArray ++ Builtin.zeroCells zv.cells (grownCap w (n + cnt) c' e - (n + cnt)))[j]?) happ hb2 (cell := fun _ => none) (fun r c a' ha' => absurd ha' nilCont_at) (g1.append hrel) (fun j hj => by omega) (fun j u hj => by
      have hjl := (List.getElem?_eq_some_iff.1 hj).1
      rw [Nat.zero_mul, Nat.zero_add, Array.getElem?_append_left (by simpa using hjl)]
      simpa using hj)
    obtain ⟨ρ', e1, e2, e3⟩ := fresh_drew (e := e) (wd := k.width) (s := strideOf k.width i.size) (n := n + cnt) (c := grownCap w (n + cnt) c' e) (bl' := m.bl) hm e0 (by
      rw [hst]
      simp only [Array.size_append, size_zeroCells, hzs, List.size_toArray, ho1, hl, ← Nat.add_mul]
      exact Nat.mul_le_mul_right _ (by omega)) hge (fun _ _ h => h) (Cont.app_plain happ)
    exact ⟨ρ', _, _, hr, e1, e2, e3⟩
  · cases h

/-- The text of bytes. -/
def strOf (zs : List Int) : ByteArray := zs.foldl (fun r n => r.push (UInt8.ofNat n.toNat)) ByteArray.empty
def convM (P : Program) (m : MS) (src dst : TypeId) (a : AV) : Option (AV × List Bool) := match P.underlying src, P.underlying dst with
  | some (.slice e), some .string => match P.underlying e with
    | some (.int .u8) => match a with
      | .val (.slice none _ _) => some (.val (.string ByteArray.empty), [])
      | .sl _ l 1 r 1 n _ => match look m.bl l with
        | some ⟨_, _, .col (.ints .u8 zs)⟩ => some (.val (.string (strOf ((zs.drop r).take n))), [decide (r + n ≤ zs.length)])
        | some ⟨_, _, .cells cs⟩ => match intsOf .u8 ((cs.drop r).take n) with
          | some xs => match Nat.beq xs.length n with
            | true => some (.val (.string (strOf xs)), [])
            | false => none
          | none => none
        | _ => none
      | _ => none
    | _ => none
  | _, _ => none
theorem convM_ok {src dst : TypeId} {a v : AV} {bs : List Bool} {x : Value} (h : convM P m src dst a = some (v, bs)) (hm : MRel ρ m w) (hx : AV.rel ρ m.nx a x) (hbs : bs.all id = true) : PureOk P (convert src dst x) ρ m.nx w v := by
  unfold convM at h
  split at h <;> try cases h
  rename_i e hs hd
  split at h <;> try cases h
  rename_i he
  have main : ∀ (l r n : Nat) (A : Option Addr) (c : Nat) (xs : List Int), (0 < n → A = some ⟨(ρ l).b, (ρ l).o + r * 1, none⟩) → xs.length = n → (∀ j z, xs[j]? = some z → w.cell? ⟨(ρ l).b, (ρ l).o + (r + j), none⟩ = some (.int .u8 z)) →
      PureOk P (convert src dst (.slice A n c)) ρ m.nx w (.val (.string (strOf xs))) := fun l r n A c xs hA hlen hcell => by
    refine mkPure (.string (strOf xs)) ?_ (by simp [AV.rel])
    rw [run_convert_bytes_string w src dst e A n c hs he hd]
    cases A with
    | none =>
      have h0 : n = 0 := by
        cases n with
        | zero => rfl
        | succ n => have := hA (by omega); cases this
      subst h0
      have : xs = [] := List.eq_nil_of_length_eq_zero hlen
      subst this
      rfl
    | some ad =>
      refine run_bytesToString w ad n c xs ?_
      have := run_loadCells_list (P := P) w ad (xs.map (Value.int .u8)) (fun j v hj => by
        simp only [List.getElem?_map, Option.map_eq_some_iff] at hj
        obtain ⟨z, hz, rfl⟩ := hj
        have hj0 := (List.getElem?_eq_some_iff.1 hz).1
        have := hA (by omega)
        cases this
        rw [add_none, ← hcell j z hz]
        congr 2
        omega)
      simpa [hlen] using this
  split at h
  · cases h
    simp only [AV.rel] at hx
    subst hx
    refine mkPure (.string ByteArray.empty) ?_ (by simp [AV.rel])
    rw [run_convert_bytes_string w src dst e none _ _ hs he hd]
    rfl
  · rename_i nn l r n cap
    simp only [AV.rel] at hx
    obtain ⟨_, A, c, rfl, _, hA, _⟩ := hx
    split at h
    · rename_i wr op zs hl
      cases h
      have hn : r + n ≤ zs.length := by simpa using hbs
      refine main l r n A c _ hA (by simp; omega) (fun j z hz => ?_)
      have hj0 : j < n := by have := (List.getElem?_eq_some_iff.1 hz).1; simp at this; omega
      rw [List.getElem?_take_of_lt hj0, List.getElem?_drop] at hz
      obtain ⟨_, x, g1, g2⟩ := (hm.blk _ _ hl).2.rel (r + j) 0 (.val (.int .u8 z)) (by
        simp only [Cont.at, Col.at]
        rw [decide_eq_true (by omega), List.getD_eq_getElem?_getD, hz]; rfl)
      simp only [AV.rel] at g2
      subst g2
      simpa [Cont.width] using g1
    · rename_i wr op cs hl
      split at h <;> try cases h
      rename_i xs hxs
      split at h <;> try cases h
      rename_i hlen
      refine main l r n A c xs hA (Nat.eq_of_beq_eq_true hlen) (fun j z hz => ?_)
      have he := intsOf_eq hxs
      have hj0 : j < n := by have := (List.getElem?_eq_some_iff.1 hz).1; rw [Nat.eq_of_beq_eq_true hlen] at this; exact this
      have hj : ((cs.drop r).take n)[j]? = some (.val (.int .u8 z)) := by rw [he]; simp [hz]
      rw [List.getElem?_take_of_lt hj0, List.getElem?_drop] at hj
      obtain ⟨_, x, g1, g2⟩ := (hm.blk _ _ hl).2.rel (r + j) 0 (.val (.int .u8 z)) (by simp only [Cont.at, hj])
      simp only [AV.rel] at g2
      subst g2
      simpa [Cont.width] using g1
    · cases h
  · cases h
/-- A text's bytes. -/
def bytesOf (s : ByteArray) : List Int := s.data.toList.map fun b => (b.toNat : Int)
def convN (P : Program) (m : MS) (src dst : TypeId) (a : AV) : Option (AV × MS) := match P.underlying src, P.underlying dst with
  | some .string, some (.slice e) => match P.underlying e with
    | some (.int .u8) => match a with
      | .val (.string s) => some (.sl true m.nx 1 0 1 s.size none, m.new ⟨false, false, .col (.ints .u8 (bytesOf s))⟩)
      | _ => none
    | _ => none
  | _, _ => none
theorem MRel.allocF {b : ABlk} {cs : Array Value} {t : TypeId} {fz : Nat × Nat} {cap : Nat} (h : MRel ρ m w) (hr : b.cont.rel ρ m.nx (fun j => cs[j]?)) (hw : b.wr = false) (ho : b.op = false) (hp : b.cont.plain = true) :
    MRel (ρ.new m.nx ⟨w.heap.size, 0, cap, 0⟩) ⟨(m.nx, some b) :: m.bl, m.nx + 1⟩ (w.alloc (.cells cs t fz)) ∧
    Moves m.nx ρ (ρ.new m.nx ⟨w.heap.size, 0, cap, 0⟩) m ⟨(m.nx, some b) :: m.bl, m.nx + 1⟩ w (w.alloc (.cells cs t fz)) := by
  have hext : ∀ l, l < m.nx → (ρ.new m.nx ⟨w.heap.size, 0, cap, 0⟩) l = ρ l := fun l hl => by unfold Rho.new; rw [if_neg (by omega)]
  have hnew : (w.alloc (.cells cs t fz)).heap[w.heap.size]? = some (.cells cs t fz) := by show (w.heap.push _)[w.heap.size]? = _; simp
  have hsz : (w.alloc (.cells cs t fz)).heap.size = w.heap.size + 1 := by show (w.heap.push _).size = _; simp
  refine ⟨⟨fun l b' hl => ?_, fun l1 b1 l2 b2 h1 h2 hw1 hne hnv => ?_, fun l1 b1 l2 b2 h1 h2 hw1 hn2 => ?_⟩, ⟨hext, Nat.le_succ _, rfl, rfl, ⟨rfl, Nat.le_refl _⟩, by rw [hsz]; omega, fun g hg _ => Below.heap_alloc _ _ _ hg, fun g hg => ?_⟩⟩
  · simp only [look_cons] at hl
    by_cases e : m.nx = l
    · subst e
      simp only [if_true, Option.some.injEq] at hl
      subst hl
      refine ⟨Nat.lt_succ_self _, ⟨.inl (by simp only [Rho.new, if_true]; omega), ?_, fun h => ?_, fun h => ?_, fun q hq => absurd hq (Cont.plain_ne hp q)⟩⟩
      · refine hr.ext hext (Nat.le_succ _) fun j x hx => ?_
        simp only [Rho.new, if_true, World.cell?, hnew]
        simpa using hx
      · rw [hw] at h; cases h
      · rw [ho] at h; cases h
    · rw [if_neg e] at hl
      obtain ⟨h1, h2⟩ := h.blk l b' hl
      rw [hext l h1]
      refine ⟨Nat.lt_succ_of_lt h1, ?_⟩
      rcases h2.lt with hlt | hv
      · exact h2.ext hext (Nat.le_succ _) (by rw [hsz]; omega) (Below.heap_alloc _ _ _ hlt) fun hn' g hg => Below.heap_alloc _ _ _ (h2.tlt hn' g hg)
      · exact ABlk.ok.any hv _
  · simp only [look_cons] at h1 h2
    by_cases e1 : m.nx = l1
    · rw [if_pos e1] at h1
      cases h1
      rw [hw] at hw1; cases hw1
    · rw [if_neg e1] at h1
      obtain ⟨g1, g2⟩ := h.blk l1 b1 h1
      rw [hext l1 g1]
      by_cases e2 : m.nx = l2
      · have := g2.lt.resolve_right (wr_not_void hw1)
        subst e2
        simp only [Rho.new, if_true]
        omega
      · rw [if_neg e2] at h2
        rw [hext l2 (h.blk l2 b2 h2).1]
        exact h.apart l1 b1 l2 b2 h1 h2 hw1 hne hnv
  · simp only [look_cons] at h1 h2
    by_cases e1 : m.nx = l1
    · rw [if_pos e1] at h1
      cases h1
      rw [hw] at hw1; cases hw1
    · rw [if_neg e1] at h1
      rw [hext l1 (h.blk l1 b1 h1).1]
      by_cases e2 : m.nx = l2
      · rw [if_pos e2] at h2
        cases h2
        rw [Cont.nested_plain hp] at hn2; cases hn2
      · rw [if_neg e2] at h2
        rw [hext l2 (h.blk l2 b2 h2).1]
        exact h.deep l1 b1 l2 b2 h1 h2 hw1 hn2
  · obtain ⟨l, b', h1, h2, h3⟩ := hg
    simp only [look_cons] at h1
    by_cases e : m.nx = l
    · subst e
      simp only [Rho.new, if_true] at h3
      exact .inr (by omega)
    · rw [if_neg e] at h1
      rw [hext l (h.blk l b' h1).1] at h3
      exact .inl ⟨l, b', h1, h2, h3⟩
theorem convN_ok {src dst : TypeId} {a v : AV} {m' : MS} {x : Value} (h : convN P m src dst a = some (v, m')) (hm : MRel ρ m w) (hx : AV.rel ρ m.nx a x) : MemOk P (convert src dst x) ρ m w v m' := by
  unfold convN at h
  split at h <;> try cases h
  rename_i e hs hd
  split at h <;> try cases h
  rename_i he
  split at h <;> try cases h
  rename_i s
  simp only [AV.rel] at hx
  subst hx
  have hrow : ∀ j z, (bytesOf s)[j]? = some z → (bytesRow s (grownCap w s.size 0 e))[j]? = some (Value.int .u8 z) := fun j z hj => by
    have hjl := (List.getElem?_eq_some_iff.1 hj).1
    unfold bytesOf at hj hjl
    unfold bytesRow
    rw [Array.getElem?_append_left (by simpa using hjl)]
    simp only [List.getElem?_map, Option.map_eq_some_iff] at hj
    obtain ⟨b, hb, rfl⟩ := hj
    simp at hb
    simp [hb]
  obtain ⟨h1, h2⟩ := hm.drew.allocF (b := ⟨false, false, .col (.ints .u8 (bytesOf s))⟩) (cs := bytesRow s (grownCap w s.size 0 e)) (t := e) (fz := ((bytesRow s (grownCap w s.size 0 e)).size, (bytesRow s (grownCap w s.size 0 e)).size + 1)) (cap := grownCap w s.size 0 e) (fun r c a ha => by
    cases c <;> simp only [Cont.at] at ha <;> try cases ha
    simp only [Col.at, Option.some.injEq, Prod.mk.injEq, decide_eq_true_eq] at ha
    obtain ⟨rfl, hlt⟩ := ha
    refine ⟨by simp [Cont.width], Value.int .u8 ((bytesOf s).getD r 0), ?_, by simp only [AV.rel]⟩
    have := hrow r ((bytesOf s).getD r 0) (by simp [hlt])
    simpa [Cont.width] using this) rfl rfl rfl
  refine ⟨_, _, _, run_bytes_of_string w src dst e s hs hd he, ?_, h1, (Moves.drew (Nat.le_refl _)).trans h2⟩
  simp only [AV.rel, MS.new, Rho.new, if_true]
  exact ⟨Nat.lt_succ_self _, _, _, rfl, grownCap_ge w s.size 0 e, fun _ => by simp, fun _ => rfl, by simp⟩
/-- The same cell many times. -/
def Col.rep : AV → Nat → Option Col
  | .val (.int k x), n => some (.ints k (List.replicate n x))
  | .val (.bool x), n => some (.bools (List.replicate n x))
  | .val (.string x), n => some (.strs (List.replicate n x))
  | _, _ => none
def reps : List AV → Nat → Option (List Col)
  | [], _ => some []
  | a :: r, n => match Col.rep a n with
    | some c => match reps r n with
      | some cs => some (c :: cs)
      | none => none
    | none => none
def repCont (z : List AV) (n : Nat) : Option Cont := match z with
  | [a] => match Col.rep a n with
    | some c => some (.col c)
    | none => none
  | _ => match reps z n with
    | some cs => some (.rows cs)
    | none => none
theorem Col.rep_at {a a' : AV} {n r : Nat} {c : Col} (h : Col.rep a n = some c) (ha : c.at r = (a', true)) : a' = a ∧ r < n := by
  unfold Col.rep at h
  split at h <;> cases h <;> simp only [Col.at, Prod.mk.injEq, decide_eq_true_eq, List.length_replicate] at ha <;> obtain ⟨rfl, hr⟩ := ha <;> exact ⟨by simp [hr], hr⟩
theorem reps_at : ∀ {z : List AV} {n : Nat} {cs : List Col}, reps z n = some cs → cs.length = z.length ∧ ∀ (i : Nat) (c : Col), cs[i]? = some c → ∃ a, z[i]? = some a ∧ Col.rep a n = some c
  | [], n, cs, h => by cases h; exact ⟨rfl, fun i c hc => by simp at hc⟩
  | a :: z, n, cs, h => by
    simp only [reps] at h
    split at h
    · rename_i c1 h1
      split at h
      · rename_i cs1 h2
        cases h
        obtain ⟨g1, g2⟩ := reps_at h2
        refine ⟨by simp [g1], fun i c hc => ?_⟩
        cases i with
        | zero => simp at hc; subst hc; exact ⟨a, rfl, h1⟩
        | succ i => simp at hc; obtain ⟨a', e1, e2⟩ := g2 i c hc; exact ⟨a', by simpa using e1, e2⟩
      · cases h
    · cases h
theorem repCont_rel {z : List AV} {zs : List Value} {n : Nat} {k : Cont} (h : repCont z n = some k) (hz : AV.rels ρ nx z zs) (h0 : z ≠ []) : k.rel ρ nx (fun j => (madeCells zs.toArray (n * z.length))[j]?) ∧ (k.width = 1 → z.length = 1) ∧ (k.width = z.length) := by
  have hat : ∀ j, j < n * z.length → ∀ a, z[j % z.length]? = some a → ∃ x, (madeCells zs.toArray (n * z.length))[j]? = some x ∧ AV.rel ρ nx a x := fun j hj a ha => by
    obtain ⟨x, g1, g2⟩ := hz.at_ ha
    refine ⟨x, ?_, g2⟩
    have hl := hz.len
    simp only [madeCells, Array.getElem?_map, Array.getElem?_range, hj, if_true, Option.map_some]
    rw [hl] at g1
    simp [g1]
  unfold repCont at h
  split at h
  · rename_i a
    split at h <;> try cases h
    rename_i c hc
    refine ⟨fun r c' a' ha => ?_, fun _ => rfl, rfl⟩
    cases c' <;> simp only [Cont.at] at ha <;> try cases ha
    obtain ⟨rfl, hr⟩ := Col.rep_at hc (Option.some.inj ha)
    obtain ⟨x, g1, g2⟩ := hat r (by simpa using hr) a' (by simp [Nat.mod_one])
    exact ⟨by simp [Cont.width], x, by simpa [Cont.width] using g1, g2⟩
  · rename_i hne
    split at h <;> try cases h
    rename_i cs hcs
    obtain ⟨g1, g2⟩ := reps_at hcs
    refine ⟨fun r c a ha => ?_, fun h => by simpa [Cont.width, g1] using h, by simp [Cont.width, g1]⟩
    simp only [Cont.at] at ha
    split at ha
    · rename_i cl hcl
      obtain ⟨a0, e1, e2⟩ := g2 c cl hcl
      obtain ⟨rfl, hr⟩ := Col.rep_at e2 (Option.some.inj ha)
      have hc : c < z.length := (List.getElem?_eq_some_iff.1 e1).1
      have hm : r * z.length + z.length ≤ n * z.length := by
        have := Nat.mul_le_mul_right z.length (show r + 1 ≤ n from hr)
        rw [Nat.add_mul, Nat.one_mul] at this
        exact this
      obtain ⟨x, g3, g4⟩ := hat (r * z.length + c) (by omega) a (by rw [Nat.mul_comm, Nat.mul_add_mod, Nat.mod_eq_of_lt hc]; exact e1)
      exact ⟨by simp [Cont.width, g1]; exact hc, x, by simpa [Cont.width, g1] using g3, g4⟩
    · cases ha
theorem repCont_plain {z : List AV} {n : Nat} {k : Cont} (h : repCont z n = some k) : k.plain = true := by
  unfold repCont at h
  split at h
  · split at h
    · cases h; rfl
    · cases h
  · split at h
    · cases h; rfl
    · cases h
def makeA (P : Program) (m : MS) (t : TypeId) (a b : AV) : Option (AV × MS × List Bool) := match P.underlying t with
  | some (.slice e) => match P.info? e with
    | some i => match zeroA P e with
      | some za => match za.cellsOf with
        | some z => match a, b with
          | .val (.int _ l), .val (.int _ c) => match Nat.beq z.length i.size && Nat.blt 0 i.size with
            | true => match repCont z c.toNat with
              | some k => match Nat.beq (strideOf k.width i.size * k.width) i.size with
                | true => some (.sl true m.nx k.width 0 (strideOf k.width i.size) l.toNat none, ⟨(m.nx, some ⟨true, true, k⟩) :: m.bl, m.nx + 1⟩, [decide (0 ≤ l), decide (l ≤ c), decide ((i.bytes : Int) * c ≤ 281474976710656), decide (c ≤ 9223372036854775807)])
                | false => none
              | none => none
            | false => none
          | _, _ => none
        | none => none
      | none => none
    | none => none
  | _ => none
theorem makeA_ok {t : TypeId} {a b v : AV} {m' : MS} {bs : List Bool} {x y : Value} (h : makeA P m t a b = some (v, m', bs)) (hm : MRel ρ m w) (hx : AV.rel ρ m.nx a x) (hy : AV.rel ρ m.nx b y) (hbs : bs.all id = true) : MemOk P (Instr.makeSlice t x y) ρ m w v m' := by
  unfold makeA at h
  split at h <;> try cases h
  rename_i e hu
  split at h <;> try cases h
  rename_i i hi
  split at h <;> try cases h
  rename_i za hza
  split at h <;> try cases h
  rename_i z hz
  split at h <;> try cases h
  rename_i kl l kc c
  split at h <;> try cases h
  rename_i hck
  rw [Bool.and_eq_true, Nat.blt_eq] at hck
  have hzl := Nat.eq_of_beq_eq_true hck.1
  split at h <;> try cases h
  rename_i k hk
  split at h <;> try cases h
  rename_i hst
  have hst := Nat.eq_of_beq_eq_true hst
  simp at hbs
  obtain ⟨hl0, hlc, hby, h63⟩ := hbs
  simp only [AV.rel] at hx hy
  subst hx hy
  have hzv : ∃ zv, i.zero = some zv ∧ za = ofConst zv := by
    unfold zeroA at hza
    rw [hi] at hza
    dsimp only at hza
    split at hza
    · rename_i zv hzv; cases hza; exact ⟨zv, hzv, rfl⟩
    · cases hza
  obtain ⟨zv, hzv, rfl⟩ := hzv
  obtain ⟨zs, hc, hr⟩ := AV.cellsOf_ok hz (ofConst_rel (ρ := ρ) (nx := m.nx) zv)
  have hrun := run_make (P := P) w t e i zv hu hi hzv kl kc l c hl0 hlc hby h63
  obtain ⟨g1, _, _⟩ := repCont_rel hk hr (fun e => by rw [e] at hzl; simp at hzl; omega)
  rw [hc, ← hzl] at hrun
  obtain ⟨ρ', e1, e2, e3⟩ := fresh_row (w := w) (e := e) (wd := k.width) (s := strideOf k.width i.size) (n := l.toNat) (c := c.toNat) (bl' := m.bl) hm g1 (by rw [hst, size_madeCells, hzl]; exact Nat.le_refl _) (by omega) (fun _ _ h => h) (repCont_plain hk)
  exact ⟨ρ', _, _, hrun, e1, e2, e3⟩
end
end Go.Proofs.Ytmjpikkloofakaa

namespace Go.Proofs.Ytmjpikkloofakaa
open Go Go.RowKit
/-- The first cells of a slice. -/
def firstA (m : MS) (z k : Nat) (b : AV) : Option (List AV × List Bool) := match b with
  | .sl _ l w r s _ _ => match Nat.beq z (s * w) with
    | true => match look m.bl l with
      | some bk => match Nat.beq bk.cont.width w with
        | true => loadN bk.cont w r 0 (k * z) 0
        | false => none
      | none => none
    | false => none
  | _ => none
def slLen : AV → Option Nat
  | .sl _ _ _ _ _ n _ => some n
  | .val (.slice none 0 0) => some 0
  | _ => none
def minN (a b : Nat) : Nat := match Nat.ble a b with
  | true => a
  | false => b
def copyA (P : Program) (m : MS) (t : TypeId) (a b : AV) : Option (AV × MS × List Bool) := match P.underlying t with
  | some (.slice e) => match P.info? e with
    | some i => match slLen a, slLen b with
      | some n, some n' => match Nat.beq (minN n' n) 0 with
        | true => some (.val (.int .i64 0), m, [])
        | false => match a with
          | .sl _ l w r s _ _ => match Nat.beq i.size (s * w) with
            | true => match firstA m i.size (minN n' n) b with
              | some (cs, bs) => match look m.bl l with
                | some bk => match bk.wr with
                  | true => match Nat.beq bk.cont.width w with
                    | true => match setN bk.cont w r 0 cs 0 with
                      | some (k, bs') => some (.val (.int .i64 ((minN n' n : Nat) : Int)), ⟨upd m.bl l (some ⟨true, bk.op, k⟩), m.nx⟩, bs ++ bs')
                      | none => none
                    | false => none
                  | false => none
                | none => none
              | none => none
            | false => none
          | _ => none
      | _, _ => none
    | none => none
  | _ => none
/-- Nothing is put behind: the same slice. -/
def appendZ (P : Program) (t : TypeId) (a b : AV) : Option AV := match slLen b with
  | some n => match Nat.beq n 0 with
    | true => match P.underlying t with
      | some (.slice e) => match P.info? e with
        | some _ => match slLen a with
          | some _ => some a
          | none => none
        | none => none
      | _ => none
    | false => none
  | none => none
theorem minN_eq (a b : Nat) : minN a b = Nat.min a b := by
  unfold minN
  split
  · rename_i h; exact (Nat.min_eq_left (Nat.le_of_ble_eq_true h)).symm
  · rename_i h
    have : ¬ a ≤ b := fun hle => by rw [Nat.ble_eq_true_of_le hle] at h; cases h
    exact (Nat.min_eq_right (by omega)).symm
section
variable {P : Program} {ρ : Rho} {m : MS} {w : World}
theorem slLen_full {a : AV} {n nx : Nat} {x : Value} (h : slLen a = some n) (hx : AV.rel ρ nx a x) : ∃ A c, x = .slice A n c ∧ n ≤ c ∧ (∀ w, (Builtin.lenOf x).run P w = .ok n w) := by
  unfold slLen at h
  split at h
  · cases h
    simp only [AV.rel] at hx
    obtain ⟨_, A, c, rfl, hc, _⟩ := hx
    exact ⟨A, c, rfl, hc, fun w => rfl⟩
  · cases h
    simp only [AV.rel] at hx
    subst hx
    exact ⟨none, 0, rfl, Nat.le_refl _, fun w => rfl⟩
  · cases h
theorem slLen_ok {a : AV} {n nx : Nat} {x : Value} (h : slLen a = some n) (hx : AV.rel ρ nx a x) : ∃ A c, x = .slice A n c ∧ ∀ w, (Builtin.lenOf x).run P w = .ok n w := by
  unfold slLen at h
  split at h
  · cases h
    simp only [AV.rel] at hx
    obtain ⟨_, A, c, rfl, _⟩ := hx
    exact ⟨A, c, rfl, fun w => rfl⟩
  · cases h
    simp only [AV.rel] at hx
    subst hx
    exact ⟨none, 0, rfl, fun w => rfl⟩
  · cases h
theorem firstA_ok {z k n : Nat} {b : AV} {cs : List AV} {bs : List Bool} {y : Value} (h : firstA m z k b = some (cs, bs)) (hn : slLen b = some n) (h0 : 0 < n) (hm : MRel ρ m w) (hy : AV.rel ρ m.nx b y) (hbs : bs.all id = true) :
    ∃ xs : List Value, (Builtin.firstCells z k y).run P w = .ok xs.toArray w ∧ AV.rels ρ m.nx cs xs := by
  unfold firstA at h
  split at h
  · rename_i nn l wd r s n' cap
    split at h
    · rename_i hz
      have hz := Nat.eq_of_beq_eq_true hz
      split at h
      · rename_i bk hl
        split at h
        · rename_i hw
          have hw := Nat.eq_of_beq_eq_true hw
          subst hw
          simp only [slLen, Option.some.injEq] at hn
          subst hn
          simp only [AV.rel] at hy
          obtain ⟨_, A, c, rfl, _, hA, _⟩ := hy
          rw [hA h0]
          obtain ⟨xs, h1, h2, h3⟩ := loadN_ok (hm.blk _ _ hl).2.rel r 0 _ _ _ _ h hbs
          refine ⟨xs, ?_, h1⟩
          have := run_loadCells_list (P := P) w ⟨(ρ l).b, (ρ l).o + r * bk.cont.width, none⟩ xs (fun j v hv => by
            rw [add_none]
            have := h3 j v hv
            simpa [Nat.add_assoc] using this)
          rw [h2] at this
          exact this
        · cases h
      · cases h
    · cases h
  · cases h
theorem copyA_ok {t : TypeId} {a b v : AV} {m' : MS} {bs : List Bool} {x y : Value} (h : copyA P m t a b = some (v, m', bs)) (hm : MRel ρ m w) (hx : AV.rel ρ m.nx a x) (hy : AV.rel ρ m.nx b y) (hbs : bs.all id = true) (t' ty : TypeId) :
    MemOk P (Builtin.copy_ #[t, t'] ty #[x, y]) ρ m w v m' := by
  unfold copyA at h
  split at h
  · rename_i e hu
    split at h
    · rename_i i hi
      split at h
      · rename_i n n' hn hn'
        obtain ⟨A, c, rfl, _⟩ := slLen_ok (P := P) hn hx
        obtain ⟨A', c', rfl, hlen⟩ := slLen_ok (P := P) hn' hy
        split at h
        · rename_i h0
          have h0 := Nat.eq_of_beq_eq_true h0
          rw [minN_eq] at h0
          cases h
          refine ⟨ρ, _, w, ?_, by simp only [AV.rel]; rfl, hm, Moves.refl (Nat.le_refl _)⟩
          simp only [Builtin.copy_, List.getElem?_toArray, List.getElem?_cons_zero, List.getElem?_cons_succ, Sem.run_bind, run_underlying hu, Result.andThen_ok, hlen, run_sizeOf hi, Sem.run_pure]
          rw [h0]
          have hf : (Builtin.firstCells i.size 0 (.slice A' n' c')).run P w = .ok #[] w := by
            cases A' with
            | none => rfl
            | some a =>
              have := run_loadCells_list (P := P) w a [] (fun j v hv => by simp at hv)
              simp only [Builtin.firstCells, Nat.zero_mul]
              exact this
          rw [hf]
          cases A <;> simp [storeCells, goInt]
        · rename_i h0
          split at h
          · rename_i nn l wd r s n2 cap
            split at h
            · rename_i hz
              have hz := Nat.eq_of_beq_eq_true hz
              split at h
              · rename_i cs bs1 hf
                split at h
                · rename_i bk hl
                  split at h
                  · rename_i hw
                    split at h
                    · rename_i hwd
                      have hwd := Nat.eq_of_beq_eq_true hwd
                      subst hwd
                      split at h
                      · rename_i k bs2 hs
                        cases h
                        obtain ⟨b1, b2⟩ := all_app hbs
                        have hmin : Nat.min n' n ≠ 0 := fun e => by rw [minN_eq, e] at h0; cases h0
                        have hle1 : Nat.min n' n ≤ n' := Nat.min_le_left _ _
                        have hle2 : Nat.min n' n ≤ n := Nat.min_le_right _ _
                        obtain ⟨xs, g1, g2⟩ := firstA_ok (P := P) hf hn' (by omega) hm hy b1
                        simp only [slLen, Option.some.injEq] at hn
                        subst hn
                        simp only [AV.rel] at hx
                        obtain ⟨_, A2, c2, e2, _, hA, _⟩ := hx
                        cases e2
                        have hA := hA (by omega)
                        subst hA
                        obtain ⟨w', e1, e2, e3⟩ := storeN_ok (P := P) cs 0 m bk k bs2 w xs hm hl hw hs b2 g2
                        refine ⟨ρ, _, w', ?_, by simp only [AV.rel]; rfl, e2, e3⟩
                        rw [minN_eq] at g1 ⊢
                        simp only [Builtin.copy_, List.getElem?_toArray, List.getElem?_cons_zero, List.getElem?_cons_succ, Sem.run_bind, run_underlying hu, Result.andThen_ok, hlen, run_sizeOf hi, Sem.run_pure, g1]
                        have e1' : (storeCells ⟨(ρ l).b, (ρ l).o + r * bk.cont.width, none⟩ xs 0).run P w = .ok () w' := by simpa using e1
                        simp [e1', goInt]
                      · cases h
                    · cases h
                  · cases h
                · cases h
              · cases h
            · cases h
          · cases h
      · cases h
    · cases h
  · cases h
theorem appendZ_ok {t ty : TypeId} {a b v : AV} {x y : Value} {nx : Nat} (h : appendZ P t a b = some v) (hx : AV.rel ρ nx a x) (hy : AV.rel ρ nx b y) : PureOk P (Builtin.append_ #[t, t] ty #[x, y]) ρ nx w v := by
  unfold appendZ at h
  split at h
  · rename_i n hn
    split at h
    · rename_i h0
      have h0 := Nat.eq_of_beq_eq_true h0
      subst h0
      split at h
      · rename_i e hu
        split at h
        · rename_i i hi
          split at h
          · rename_i n' hn'
            cases h
            obtain ⟨A, c, rfl, hc, _⟩ := slLen_full (P := P) hn' hx
            obtain ⟨A', c', rfl, hlen⟩ := slLen_ok (P := P) hn hy
            refine ⟨_, ?_, hx⟩
            have hf : (Builtin.firstCells i.size 0 (.slice A' 0 c')).run P w = .ok #[] w := by
              cases A' with
              | none => rfl
              | some a =>
                have := run_loadCells_list (P := P) w a [] (fun j v hv => by simp at hv)
                simp only [Builtin.firstCells, Nat.zero_mul]
                exact this
            simp only [Builtin.append_, List.getElem?_toArray, List.getElem?_cons_zero, List.getElem?_cons_succ, Sem.run_bind, run_underlying hu, Result.andThen_ok, run_sizeOf hi, Sem.run_pure, hlen, Bool.false_eq_true, if_false, Nat.add_zero, Bool.not_false, if_true]
            rw [if_pos hc]
            simp only [Sem.run_bind, hf, Result.andThen_ok]
            cases A <;> simp [storeCells]
          · cases h
        · cases h
      · cases h
    · cases h
  · cases h
end
end Go.Proofs.Ytmjpikkloofakaa

namespace Go.Proofs.Ytmjpikkloofakaa
open Go Go.RowKit

def elemN (m : MS) : AV → Option (Nat × NCol × List Bool)
  | .sl _ l 1 0 1 n _ => match look m.bl l with
    | some ⟨_, _, .col (.ints k zs)⟩ => some (l, .ints k [zs], [Nat.beq n zs.length])
    | some ⟨_, _, .col (.bools zs)⟩ => some (l, .bools [zs], [Nat.beq n zs.length])
    | some ⟨_, _, .col (.strs zs)⟩ => some (l, .strs [zs], [Nat.beq n zs.length])
    | some ⟨_, _, .cells cs⟩ => match strsOf cs with
      | some ss => some (l, .strs [ss], [Nat.beq n ss.length])
      | none => match intsOf .i64 cs with
        | some zs => some (l, .ints .i64 [zs], [Nat.beq n zs.length])
        | none => none
    | _ => none
  | _ => none
def snocN : NCol → NCol → Option NCol
  | .ints k l, .ints k' l' => match decide (k = k') with
    | true => some (.ints k (l ++ l'))
    | false => none
  | .bools l, .bools l' => some (.bools (l ++ l'))
  | .strs l, .strs l' => some (.strs (l ++ l'))
  | _, _ => none
def frz (bl : List (Nat × Option ABlk)) (l : Nat) : List (Nat × Option ABlk) := match look bl l with
  | some b => upd bl l (some ⟨false, false, b.cont⟩)
  | none => bl
def appendN (P : Program) (m : MS) (t : TypeId) (a b : AV) : Option (AV × MS × List Bool) := match P.underlying t with
  | some (.slice e) => match P.info? e with
    | some i => match i.zero with
      | some zv => match Nat.beq zv.cells.size 1 && (Nat.beq i.size 1 && Nat.blt 0 i.bytes) with
        | true => match newsA m b 1 with
          | some (1, [x]) => match elemN m x with
            | some (lx, el, bs) => match a with
              | .val (.slice none 0 0) => some (.sl true m.nx 1 0 1 1 none, ⟨(m.nx, some ⟨true, true, .obj (.nest [el] [])⟩) :: frz m.bl lx, m.nx + 1⟩, decide (1 * i.bytes ≤ 140737488355328) :: bs)
              | .sl _ l 1 0 1 n none => match look m.bl l with
                | some ⟨true, true, .obj (.nest [nc] _)⟩ => match snocN nc el with
                  | some nc' => some (.sl true m.nx 1 0 1 (n + 1) none, ⟨(m.nx, some ⟨true, true, .obj (.nest [nc'] [])⟩) :: upd (frz m.bl lx) l none, m.nx + 1⟩, Nat.beq n nc.len :: decide (0 < n) :: decide ((n + 1) * i.bytes ≤ 140737488355328) :: bs)
                  | none => none
                | _ => none
              | _ => none
            | none => none
          | _ => none
        | false => none
      | none => none
    | none => none
  | _ => none
section
variable {P : Program} {ρ : Rho} {m : MS} {w : World}
theorem look_frz {bl : List (Nat × Option ABlk)} {lx l : Nat} {b : ABlk} (h : look (frz bl lx) l = some b) : (l ≠ lx ∧ look bl l = some b) ∨ (l = lx ∧ ∃ b0, look bl l = some b0 ∧ b = ⟨false, false, b0.cont⟩) := by
  unfold frz at h
  split at h
  · rename_i b0 hb0
    rw [look_upd] at h
    split at h
    · rename_i e
      subst e
      cases h
      exact .inr ⟨rfl, b0, hb0, rfl⟩
    · rename_i e
      exact .inl ⟨Ne.symm e, h⟩
  · rename_i hn
    by_cases e : l = lx
    · subst e; rw [hn] at h; cases h
    · exact .inl ⟨e, h⟩
theorem frz_look {bl : List (Nat × Option ABlk)} {lx l : Nat} (h : l ≠ lx) : look (frz bl lx) l = look bl l := by
  unfold frz
  split
  · rw [look_upd, if_neg (Ne.symm h)]
  · rfl
theorem ABlk.ok.frz {nx : Nat} {b : ABlk} {i : LI} (h : b.ok ρ nx i w) : (⟨false, false, b.cont⟩ : ABlk).ok ρ nx i w :=
  ⟨h.lt.imp id fun hv => ⟨rfl, rfl, hv.2.2.1, hv.2.2.2⟩, h.rel, (fun h => by cases h), (fun h => by cases h), h.obj⟩
/-- Such a block is not written any more. -/
theorem MRel.frz (h : MRel ρ m w) (lx : Nat) : MRel ρ ⟨Go.Proofs.Ytmjpikkloofakaa.frz m.bl lx, m.nx⟩ w where
  blk l b hl := by
    rcases look_frz hl with ⟨_, h1⟩ | ⟨_, b0, h1, rfl⟩
    · exact h.blk l b h1
    · exact ⟨(h.blk l b0 h1).1, (h.blk l b0 h1).2.frz⟩
  apart l b l' b' h1 h2 hw hne hnv := by
    rcases look_frz h1 with ⟨_, g1⟩ | ⟨_, b0, g1, rfl⟩
    · rcases look_frz h2 with ⟨_, g2⟩ | ⟨_, b0, g2, rfl⟩
      · exact h.apart l b l' b' g1 g2 hw hne hnv
      · exact h.apart l b l' b0 g1 g2 hw hne (fun hv => hnv ⟨rfl, rfl, hv.2.2.1, hv.2.2.2⟩)
    · cases hw
  deep l b l' b' h1 h2 hw hn := by
    rcases look_frz h1 with ⟨_, g1⟩ | ⟨_, b0, g1, rfl⟩
    · rcases look_frz h2 with ⟨_, g2⟩ | ⟨_, b0, g2, rfl⟩
      · exact h.deep l b l' b' g1 g2 hw hn
      · exact h.deep l b l' b0 g1 g2 hw hn
    · cases hw
theorem Wr.frz {lx g : Nat} (h : Wr ρ ⟨Go.Proofs.Ytmjpikkloofakaa.frz m.bl lx, m.nx⟩ g) : ∃ l b, l ≠ lx ∧ look m.bl l = some b ∧ b.wr = true ∧ (ρ l).b = g := by
  obtain ⟨l, b, h1, h2, h3⟩ := h
  rcases look_frz h1 with ⟨hne, g1⟩ | ⟨_, b0, g1, rfl⟩
  · exact ⟨l, b, hne, g1, h2, h3⟩
  · cases h2
theorem Moves.frz {B : Nat} {ρ' : Rho} {m' : MS} {w' : World} {lx : Nat} (h : Moves B ρ ρ' ⟨Go.Proofs.Ytmjpikkloofakaa.frz m.bl lx, m.nx⟩ m' w w') : Moves B ρ ρ' m m' w w' :=
  ⟨h.ext, h.nx, h.os, h.tape, h.output, h.size, fun g hg hn => h.keep g hg fun hw => by
    obtain ⟨l, b, _, h1, h2, h3⟩ := Wr.frz hw
    exact hn ⟨l, b, h1, h2, h3⟩, fun g hg => (h.fresh g hg).imp (fun hw => by
    obtain ⟨l, b, _, h1, h2, h3⟩ := Wr.frz hw
    exact ⟨l, b, h1, h2, h3⟩) id⟩
theorem Moves.less {B : Nat} {ρ' : Rho} {m' m2 : MS} {w' : World} (h : Moves B ρ ρ' m m' w w') (hn : m2.nx = m'.nx) (hl : ∀ l b, look m2.bl l = some b → look m'.bl l = some b) : Moves B ρ ρ' m m2 w w' :=
  ⟨h.ext, by rw [hn]; exact h.nx, h.os, h.tape, h.output, h.size, h.keep, fun g ⟨l', b', g1, g2, g3⟩ => h.fresh g ⟨l', b', hl l' b' g1, g2, g3⟩⟩
/-- One slice that stands in a cell. -/
structure ElemIs (ρ : Rho) (m : MS) (w : World) (lx : Nat) (el : NCol) (y : Value) : Prop where
  len : el.len = 1
  val : ∃ A c, y = .slice A (el.at 0).1 c ∧ (el.at 0).1 ≤ c ∧ (0 < (el.at 0).1 → A = some ⟨(ρ lx).b, (ρ lx).o, none⟩ ∧ (∃ cur e fz, w.heap[(ρ lx).b]? = some (.cells cur e fz)) ∧ ∀ (ρ' : Rho) (nx' : Nat), (el.at 0).2.rel ρ' nx' (fun t => w.cell? ⟨(ρ lx).b, (ρ lx).o + t, none⟩))
  blk : ∃ b, look m.bl lx = some b ∧ b.cont.nested = false ∧ (∀ q, b.cont ≠ .obj q) ∧ (0 < (el.at 0).1 → ¬ b.void)
theorem rel_vals {k : Cont} {nx : Nat} {cell : Nat → Option Value} (hv : ∀ r c a, k.at r c = some (a, true) → ∃ v, a = .val v) (h : k.rel ρ nx cell) : ∀ (ρ' : Rho) (nx' : Nat), k.rel ρ' nx' cell := fun ρ' nx' r c a ha => by
  obtain ⟨h1, x, h2, h3⟩ := h r c a ha
  obtain ⟨v, rfl⟩ := hv r c a ha
  exact ⟨h1, x, h2, by simpa only [AV.rel] using h3⟩
theorem cell_cells {g o : Nat} {x : Value} (h : w.cell? ⟨g, o, none⟩ = some x) : ∃ cur e fz, w.heap[g]? = some (.cells cur e fz) := by
  simp only [World.cell?] at h
  split at h
  · rename_i cur e fz hg; exact ⟨_, _, _, hg⟩
  · cases h
theorem elemN_ok {a : AV} {lx : Nat} {el : NCol} {bs : List Bool} {y : Value} (h : elemN m a = some (lx, el, bs)) (hm : MRel ρ m w) (hy : AV.rel ρ m.nx a y) (hb : bs.all id = true) : ElemIs ρ m w lx el y := by
  unfold elemN at h
  split at h <;> try cases h
  rename_i nn l n cap
  simp only [AV.rel] at hy
  obtain ⟨_, A, c, rfl, hnc, hA, _, _⟩ := hy
  have hA : 0 < n → A = some ⟨(ρ l).b, (ρ l).o, none⟩ := fun h0 => by rw [hA h0]; simp
  split at h
  · rename_i wr op k zs hl
    cases h
    have hn : n = zs.length := Nat.eq_of_beq_eq_true (by simpa using hb)
    subst hn
    have hr := (hm.blk _ _ hl).2.rel
    refine ⟨rfl, ⟨A, c, rfl, hnc, fun h0 => ⟨hA h0, ?_, ?_⟩⟩, _, hl, rfl, (fun q h => by cases h), fun h0 hv => ?_⟩
    · obtain ⟨_, x, h2, _⟩ := hr 0 0 (.val (.int k (zs.getD 0 0))) (by simp only [Cont.at, Col.at]; rw [decide_eq_true (by exact h0)])
      exact cell_cells h2
    · exact rel_vals (fun r c a ha => by obtain ⟨v, h1, _⟩ := NCol.at_col (nc := .ints k [zs]) (j := 0) ha; exact ⟨v, h1⟩) hr
    · exact hv.2.2.2 0 0 (.val (.int k (zs.getD 0 0))) (by simp only [Cont.at, Col.at]; rw [decide_eq_true (by exact h0)])
  · rename_i wr op zs hl
    cases h
    have hn : n = zs.length := Nat.eq_of_beq_eq_true (by simpa using hb)
    subst hn
    have hr := (hm.blk _ _ hl).2.rel
    refine ⟨rfl, ⟨A, c, rfl, hnc, fun h0 => ⟨hA h0, ?_, ?_⟩⟩, _, hl, rfl, (fun q h => by cases h), fun h0 hv => ?_⟩
    · obtain ⟨_, x, h2, _⟩ := hr 0 0 (.val (.bool (zs.getD 0 false))) (by simp only [Cont.at, Col.at]; rw [decide_eq_true (by exact h0)])
      exact cell_cells h2
    · exact rel_vals (fun r c a ha => by obtain ⟨v, h1, _⟩ := NCol.at_col (nc := .bools [zs]) (j := 0) ha; exact ⟨v, h1⟩) hr
    · exact hv.2.2.2 0 0 (.val (.bool (zs.getD 0 false))) (by simp only [Cont.at, Col.at]; rw [decide_eq_true (by exact h0)])
  · rename_i wr op zs hl
    cases h
    have hn : n = zs.length := Nat.eq_of_beq_eq_true (by simpa using hb)
    subst hn
    have hr := (hm.blk _ _ hl).2.rel
    refine ⟨rfl, ⟨A, c, rfl, hnc, fun h0 => ⟨hA h0, ?_, ?_⟩⟩, _, hl, rfl, (fun q h => by cases h), fun h0 hv => ?_⟩
    · obtain ⟨_, x, h2, _⟩ := hr 0 0 (.val (.string (zs.getD 0 ⟨#[]⟩))) (by simp only [Cont.at, Col.at]; rw [decide_eq_true (by exact h0)])
      exact cell_cells h2
    · exact rel_vals (fun r c a ha => by obtain ⟨v, h1, _⟩ := NCol.at_col (nc := .strs [zs]) (j := 0) ha; exact ⟨v, h1⟩) hr
    · exact hv.2.2.2 0 0 (.val (.string (zs.getD 0 ⟨#[]⟩))) (by simp only [Cont.at, Col.at]; rw [decide_eq_true (by exact h0)])
  · rename_i wr op cs hl
    have hr := (hm.blk _ _ hl).2.rel
    have cell : ∀ (α : Type) (f : α → Value) (d : α) (ss : List α), cs = ss.map (fun z => .val (f z)) → ∀ j, j < ss.length → w.cell? ⟨(ρ l).b, (ρ l).o + j, none⟩ = some (f (ss.getD j d)) := fun α f d ss e j hj => by
      obtain ⟨_, x, h2, h3⟩ := hr j 0 (.val (f (ss.getD j d))) (by simp [Cont.at, e, hj])
      simp only [AV.rel] at h3
      subst h3
      simpa [Cont.width] using h2
    have nv : ∀ (α : Type) (f : α → Value) (ss : List α), cs = ss.map (fun z => .val (f z)) → 0 < ss.length → ¬ (⟨wr, op, .cells cs⟩ : ABlk).void := fun α f ss e h0 hv => by
      exact hv.2.2.2 0 0 (.val (f ss[0])) (by simp [Cont.at, e, h0])
    split at h
    · rename_i ss hss
      cases h
      have hn : n = ss.length := Nat.eq_of_beq_eq_true (by simpa using hb)
      subst hn
      have hc := cell _ Value.string ⟨#[]⟩ ss (strsOf_eq hss)
      refine ⟨rfl, ⟨A, c, rfl, hnc, fun h0 => ⟨hA h0, cell_cells (hc 0 h0), fun ρ' nx' r c a ha => ?_⟩⟩, _, hl, rfl, (fun q h => by cases h), fun h0 => nv _ _ ss (strsOf_eq hss) h0⟩
      cases c <;> simp only [NCol.at, Cont.at] at ha <;> try cases ha
      simp only [Col.at, Option.some.injEq, Prod.mk.injEq, decide_eq_true_eq] at ha
      obtain ⟨rfl, hlt⟩ := ha
      exact ⟨by simp [Cont.width, NCol.at], _, by simpa [Cont.width, NCol.at] using hc r hlt, by simp only [AV.rel]; rfl⟩
    · split at h
      · rename_i ss hss
        cases h
        have hn : n = ss.length := Nat.eq_of_beq_eq_true (by simpa using hb)
        subst hn
        have hc := cell _ (Value.int .i64) 0 ss (intsOf_eq hss)
        refine ⟨rfl, ⟨A, c, rfl, hnc, fun h0 => ⟨hA h0, cell_cells (hc 0 h0), fun ρ' nx' r c a ha => ?_⟩⟩, _, hl, rfl, (fun q h => by cases h), fun h0 => nv _ _ ss (intsOf_eq hss) h0⟩
        cases c <;> simp only [NCol.at, Cont.at] at ha <;> try cases ha
        simp only [Col.at, Option.some.injEq, Prod.mk.injEq, decide_eq_true_eq] at ha
        obtain ⟨rfl, hlt⟩ := ha
        exact ⟨by simp [Cont.width, NCol.at], _, by simpa [Cont.width, NCol.at] using hc r hlt, by simp only [AV.rel]; rfl⟩
      · cases h
  · cases h
theorem getD_snoc {α : Type} {l l' : List α} {d : α} : (∀ j, j < l.length → (l ++ l').getD j d = l.getD j d) ∧ (l ++ l').getD l.length d = l'.getD 0 d := by
  constructor
  · intro j hj
    simp [List.getD_eq_getElem?_getD, List.getElem?_append_left hj]
  · simp [List.getD_eq_getElem?_getD, List.getElem?_append_right]
theorem snocN_ok {nc el nc' : NCol} (h : snocN nc el = some nc') (h1 : el.len = 1) : nc'.len = nc.len + 1 ∧ (∀ j, j < nc.len → nc'.at j = nc.at j) ∧ nc'.at nc.len = el.at 0 := by
  cases nc <;> cases el <;> simp only [snocN] at h <;> try cases h
  · split at h <;> try cases h
    rename_i hk
    have hk := of_decide_eq_true hk
    subst hk
    simp only [NCol.len] at h1
    refine ⟨by simp [NCol.len, h1], fun j hj => ?_, ?_⟩
    · simp only [NCol.at, getD_snoc.1 j hj]
    · simp only [NCol.at, NCol.len, getD_snoc.2]
  all_goals
    simp only [NCol.len] at h1
    refine ⟨by simp [NCol.len, h1], fun j hj => ?_, ?_⟩
    · simp only [NCol.at, getD_snoc.1 j hj]
    · simp only [NCol.at, NCol.len, getD_snoc.2]
/-- A bit more. -/
def addTg (tg n g : Nat) : Nat := if 0 < n then tg ||| (2 ^ g) else tg
theorem addTg_bit {tg n g k : Nat} : (addTg tg n g).testBit k = true ↔ tg.testBit k = true ∨ (0 < n ∧ k = g) := by
  unfold addTg
  split
  · rename_i h
    rw [Nat.testBit_or, Bool.or_eq_true, Nat.testBit_two_pow, decide_eq_true_eq]
    exact ⟨fun g => g.imp id fun e => ⟨h, e.symm⟩, fun g => g.imp id fun e => e.2.symm⟩
  · rename_i h
    simp [h]
theorem addTg_no {tg n g k : Nat} (h1 : tg.testBit k = false) (h2 : 0 < n → k ≠ g) : (addTg tg n g).testBit k = false := by
  cases h : (addTg tg n g).testBit k with
  | false => rfl
  | true =>
    rcases addTg_bit.1 h with h | ⟨h, e⟩
    · rw [h] at h1; cases h1
    · exact absurd e (h2 h)
set_option maxHeartbeats 1000000 in
theorem appendN_ok {t ty : TypeId} {a b v : AV} {m' : MS} {bs : List Bool} {x y : Value} (h : appendN P m t a b = some (v, m', bs)) (hm : MRel ρ m w) (hx : AV.rel ρ m.nx a x) (hy : AV.rel ρ m.nx b y) (hbs : bs.all id = true) : MemOk P (Builtin.append_ #[t, t] ty #[x, y]) ρ m w v m' := by
  unfold appendN at h
  split at h <;> try cases h
  rename_i e hu
  split at h <;> try cases h
  rename_i i hi
  split at h <;> try cases h
  rename_i zv hz
  split at h <;> try cases h
  rename_i hck
  simp only [Bool.and_eq_true, Nat.blt_eq] at hck
  obtain ⟨hzs, his, hby⟩ := hck
  have hzs := Nat.eq_of_beq_eq_true hzs
  have his := Nat.eq_of_beq_eq_true his
  split at h <;> try cases h
  rename_i el0 hnews
  obtain ⟨ad, c2, news, rfl, hl, hnw, hone, hrel⟩ := newsA_ok hnews (by omega) hm hy
  simp only [AV.rels] at hrel
  obtain ⟨yv, ys, rfl, hyv, rfl⟩ := hrel
  split at h <;> try cases h
  rename_i lx el bs' hel
  split at h
  · -- nil
    cases h
    obtain ⟨hb1, hb2⟩ := all_cons hbs
    have hb1 : 1 * i.bytes ≤ 140737488355328 := by simpa using hb1
    obtain ⟨hlen, ⟨A, c, hyA, hnc, hA⟩, bx, hlx, hflat, hno, hnv⟩ := elemN_ok hel hm hyv hb2
    simp only [AV.rel] at hx
    subst hx
    have hr := run_append_nil (P := P) w t ty e i zv hu hi hz ad 1 c2 [yv] (by rw [his]; rfl) hnw (by omega) (by omega) (by omega)
    have hge := grownCap_ge w 1 0 e
    have hmf := hm.frz lx
    have hbt : 0 < (el.at 0).1 → (ρ lx).b < w.heap.size := fun h0 => ((hm.blk _ _ hlx).2.lt).resolve_right (hnv h0)
    have hnew : ((w.drew).alloc (.cells (#[yv] ++ Builtin.zeroCells zv.cells (grownCap w 1 0 e - 1)) e)).heap[w.heap.size]? = some (.cells (#[yv] ++ Builtin.zeroCells zv.cells (grownCap w 1 0 e - 1)) e) := by
      show (w.heap.push _)[w.heap.size]? = _; simp
    have hold : ∀ g, g < w.heap.size → ((w.drew).alloc (.cells (#[yv] ++ Builtin.zeroCells zv.cells (grownCap w 1 0 e - 1)) e)).heap[g]? = w.heap[g]? := fun g hg => Below.heap_alloc _ _ _ hg
    obtain ⟨h1, h2⟩ := MRel.allocG (b := ⟨true, true, .obj (.nest [el] [])⟩) (cs := #[yv] ++ Builtin.zeroCells zv.cells (grownCap w 1 0 e - 1)) (t := e) (cap := grownCap w 1 0 e) (tg := addTg 0 (el.at 0).1 (ρ lx).b) (w := w.drew) (ρ := ρ) (m := ⟨frz m.bl lx, m.nx⟩)
      (fun _ g hg => by
        obtain ⟨l1, b1, hne, g1, g2, rfl⟩ := Wr.frz hg
        exact addTg_no (Nat.zero_testBit _) fun h0 => Ne.symm (hm.apart l1 b1 lx bx g1 hlx g2 (Ne.symm hne) (hnv h0)))
      (fun _ => addTg_no (Nat.zero_testBit _) fun h0 e => by have := hbt h0; rw [← e] at this; exact Nat.lt_irrefl _ this)
      hmf.drew (fun r c a ha => by cases ha) (fun _ => ⟨rfl, by rw [Array.size_append, size_zeroCells, hzs]; simp; omega⟩) (fun q hq => by
        cases hq
        intro _
        refine ⟨fun g hg => ?_, fun c' nc j hc hj => ?_⟩
        · rcases addTg_bit.1 hg with h | ⟨h0, rfl⟩
          · rw [Nat.zero_testBit] at h; cases h
          · obtain ⟨_, ⟨cur, e', fz, h3⟩, _⟩ := hA h0
            exact ⟨cur, e', fz, by rw [hold _ (hbt h0)]; exact h3⟩
        · match c', hc with
          | 0, hc =>
            simp at hc
            subst hc
            have hj0 : j = 0 := by omega
            subst hj0
            refine ⟨A, c, ?_, hnc, fun h0 => ?_⟩
            · show World.cell? _ ⟨w.heap.size, _, none⟩ = _
              simp only [World.cell?, hnew]
              show (_ ++ _)[0 + (0 * 1 + 0)]? = _
              rw [Array.getElem?_append_left (by simp), hyA]
              rfl
            · obtain ⟨e1, _, h3⟩ := hA h0
              refine ⟨_, _, e1, addTg_bit.2 (.inr ⟨h0, rfl⟩), fun ρ' nx' => (h3 ρ' nx').ext (fun _ _ => rfl) (Nat.le_refl _) fun t x hx => ?_⟩
              simp only [World.cell?] at hx ⊢
              rw [hold _ (hbt h0)]; exact hx
          | c' + 1, hc => simp at hc)
    refine ⟨_, _, _, hr, ?_, h1, Moves.frz ((Moves.drew (Nat.le_refl _)).trans h2)⟩
    simp only [AV.rel, Rho.new, if_true]
    exact ⟨Nat.lt_succ_self _, _, grownCap w 1 0 e, rfl, hge, fun _ => by simp, fun _ => rfl, by omega⟩
  · -- its own
    rename_i nn l n
    split at h <;> try cases h
    rename_i nc fo hlk
    split at h <;> try cases h
    rename_i nc' hsn
    obtain ⟨hb0, hbs⟩ := all_cons hbs
    obtain ⟨hb1, hbs⟩ := all_cons hbs
    obtain ⟨hb2, hb3⟩ := all_cons hbs
    have hn : n = nc.len := Nat.eq_of_beq_eq_true hb0
    have hn0 : 0 < n := by simpa using hb1
    have hb2 : (n + 1) * i.bytes ≤ 140737488355328 := by simpa using hb2
    have hcnt : n + 1 ≤ (n + 1) * i.bytes := Nat.le_mul_of_pos_right _ hby
    obtain ⟨hlen, ⟨A1, c1, hyA, hnc1, hA1⟩, bx, hlx, hflat, hno, hnv⟩ := elemN_ok hel hm hyv hb3
    obtain ⟨hl1, hl2, hl3⟩ := snocN_ok hsn hlen
    have hlne : l ≠ lx := fun e => by rw [e, hlx] at hlk; cases hlk; exact hno _ rfl
    have hbt : 0 < (el.at 0).1 → (ρ lx).b < w.heap.size := fun h0 => ((hm.blk _ _ hlx).2.lt).resolve_right (hnv h0)
    simp only [AV.rel] at hx
    obtain ⟨hlt', A, c, rfl, hnc, hA, _, hcap⟩ := hx
    have hA := hA hn0
    subst hA
    obtain ⟨hlt, hok⟩ := hm.blk l _ hlk
    obtain ⟨_, ho, cur, e', hg, hcs⟩ := hok.room rfl
    have hcap : c ≤ (ρ l).cap := by simpa using hcap
    have hnb : nestB [nc] = true := nestB_at (c := 0) rfl (by omega)
    obtain ⟨htc, hcell⟩ := hok.obj _ rfl hnb
    have hcell : ∀ j, j < n → ∃ A c, cur[j]? = some (.slice A (nc.at j).1 c) ∧ (nc.at j).1 ≤ c ∧ (0 < (nc.at j).1 → ∃ b o, A = some ⟨b, o, none⟩ ∧ (ρ l).tg.testBit b = true ∧ ∀ (ρ' : Rho) (nx' : Nat), (nc.at j).2.rel ρ' nx' (fun t => w.cell? ⟨b, o + t, none⟩)) := fun j hj => by
      obtain ⟨A, cp, h1, h2⟩ := hcell 0 nc j rfl (by omega)
      refine ⟨A, cp, ?_, h2⟩
      rw [ho] at h1
      simpa [World.cell?, hg] using h1
    have ea : (⟨(ρ l).b, (ρ l).o + 0 * 1, none⟩ : Addr) = ⟨(ρ l).b, 0, none⟩ := by rw [ho]
    rw [ea]
    have hmf := hm.frz lx
    have hlf : look (frz m.bl lx) l = some ⟨true, true, .obj (.nest [nc] fo)⟩ := by rw [frz_look hlne]; exact hlk
    have hltl : (ρ l).b < w.heap.size := hok.lt.resolve_right (wr_not_void rfl)
    -- what the new cells say, in a world that has the old targets
    have nestok : ∀ (w' : World) (i' : LI) (row : Array Value), i'.o = 0 → w'.heap[i'.b]? = some (.cells row e) ∨ w'.heap[i'.b]? = some (.cells row e') → (∀ j, j < n → row[j]? = cur[j]?) → row[n]? = some yv → i'.tg = addTg (ρ l).tg (el.at 0).1 (ρ lx).b → (∀ g, (ρ l).tg.testBit g = true → w'.heap[g]? = w.heap[g]?) → (0 < (el.at 0).1 → w'.heap[(ρ lx).b]? = w.heap[(ρ lx).b]?) → QObj.ok ρ m.nx i' w' (.nest [nc'] []) := fun w' i' row hio hrow hrold hrn htg hk1 hk2 _ => by
      refine ⟨fun g hg => ?_, fun c' ncc j hc hj => ?_⟩
      · rw [htg] at hg
        rcases addTg_bit.1 hg with h | ⟨h0, rfl⟩
        · rw [hk1 g h]; exact htc g h
        · rw [hk2 h0]; exact (hA1 h0).2.1
      · match c', hc with
        | c' + 1, hc => simp at hc
        | 0, hc =>
          simp at hc
          subst hc
          have hcl : ∀ k, w'.cell? ⟨i'.b, i'.o + (k * 1 + 0), none⟩ = row[k]? := fun k => by
            rw [hio]
            rcases hrow with h | h <;> simp [World.cell?, h]
          by_cases hjn : j < n
          · obtain ⟨A2, c2', g1, g2, g3⟩ := hcell j hjn
            rw [hl2 j (by omega)]
            refine ⟨A2, c2', ?_, g2, fun h0 => ?_⟩
            · show w'.cell? ⟨i'.b, i'.o + (j * 1 + 0), none⟩ = _
              rw [hcl, hrold j hjn, g1]
            · obtain ⟨b, o, e1, e2, e3⟩ := g3 h0
              refine ⟨b, o, e1, by rw [htg]; exact addTg_bit.2 (.inl e2), fun ρ' nx' => (e3 ρ' nx').ext (fun _ _ => rfl) (Nat.le_refl _) fun t x hx => ?_⟩
              simp only [World.cell?] at hx ⊢
              rw [hk1 b e2]; exact hx
          · have hjn : j = nc.len := by omega
            subst hjn
            rw [hl3]
            refine ⟨A1, c1, ?_, hnc1, fun h0 => ?_⟩
            · show w'.cell? ⟨i'.b, i'.o + (nc.len * 1 + 0), none⟩ = _
              rw [hcl, ← hn, hrn, hyA]
            · obtain ⟨e1, _, e3⟩ := hA1 h0
              refine ⟨_, _, e1, by rw [htg]; exact addTg_bit.2 (.inr ⟨h0, rfl⟩), fun ρ' nx' => (e3 ρ' nx').ext (fun _ _ => rfl) (Nat.le_refl _) fun t x hx => ?_⟩
              simp only [World.cell?] at hx ⊢
              rw [hk2 h0]; exact hx
    have hnw1 : ∀ j u, [yv][j]? = some u → w.cell? (ad.add j) = some u := hnw
    have hapw : ∀ g, Wr ρ ⟨frz m.bl lx, m.nx⟩ g → (addTg (ρ l).tg (el.at 0).1 (ρ lx).b).testBit g = false := fun g hg => by
      obtain ⟨l1, b1, hne, g1, g2, rfl⟩ := Wr.frz hg
      exact addTg_no (hm.deep l1 b1 l _ g1 hlk g2 hnb) fun h0 => Ne.symm (hm.apart l1 b1 lx bx g1 hlx g2 (Ne.symm hne) (hnv h0))
    by_cases hroom : n + 1 ≤ c
    · have hr := run_append_room' (P := P) (w := w) t ty e e' i hu hi (ρ l).b n c cur hg ad 1 c2 [yv] (by rw [his]; rfl) hnw1 hone hroom (by rw [his]; simp; omega)
      simp only [his, Nat.mul_one, List.length_singleton] at hr
      have hrow := setRow_heap w (ρ l).b cur (cur.toList.take n ++ [yv] ++ cur.toList.drop (n + 1)).toArray e' (0, 0) hg
      have hlen' : (cur.toList.take n ++ [yv] ++ cur.toList.drop (n + 1)).length = cur.size := by
        simp only [List.length_append, List.length_take, List.length_drop, Array.length_toList, List.length_singleton]
        omega
      have hoth : ∀ g, g ≠ (ρ l).b → (w.setRow (ρ l).b (cur.toList.take n ++ [yv] ++ cur.toList.drop (n + 1)).toArray).heap[g]? = w.heap[g]? := fun g hg => setRow_other w _ g _ hg
      obtain ⟨e1, e2⟩ := MRel.turnI (ρ := ρ) (m := ⟨frz m.bl lx, m.nx⟩) (i' := ⟨(ρ l).b, 0, (ρ l).cap, addTg (ρ l).tg (el.at 0).1 (ρ lx).b⟩) (bn := ⟨true, true, .obj (.nest [nc'] [])⟩) (w' := w.setRow (ρ l).b (cur.toList.take n ++ [yv] ++ cur.toList.drop (n + 1)).toArray) rfl (fun _ g hg => hapw g hg) hmf hlf rfl (by simp [World.setRow]) rfl rfl ⟨rfl, Nat.le_refl _⟩ hoth
        ⟨.inl (by simpa [World.setRow] using hltl), (fun r c a ha => by cases ha), (fun _ j => by simp only [World.frozen?, hrow]; simp), (fun _ => ⟨rfl, rfl, _, e', hrow, by rw [List.size_toArray, hlen']; exact hcs⟩), fun q hq => by
          cases hq
          refine nestok _ _ (cur.toList.take n ++ [yv] ++ cur.toList.drop (n + 1)).toArray rfl (.inr hrow) (fun j hj => ?_) ?_ rfl (fun g hg => hoth g fun e => ?_) (fun h0 => hoth _ fun e => ?_)
          · simp only [List.append_assoc, List.getElem?_toArray]
            rw [List.getElem?_append_left (by simp; omega), List.getElem?_take_of_lt hj]
            simp
          · simp only [List.append_assoc, List.getElem?_toArray]
            rw [List.getElem?_append_right (by simp; omega)]
            simp [Nat.min_eq_left (show n ≤ cur.size by omega)]
          · rw [e, hm.deep l _ l _ hlk hlk rfl hnb] at hg; cases hg
          · exact hm.apart l _ lx bx hlk hlx rfl (Ne.symm hlne) (hnv h0) e⟩
      refine ⟨_, _, _, hr, ?_, e1, Moves.frz e2⟩
      simp only [AV.rel, Rho.new, if_true]
      exact ⟨Nat.lt_succ_self _, _, c, rfl, hroom, fun _ => by simp, fun _ => rfl, by omega⟩
    · have hro : (cur.toList.take n).length = n := by simp; omega
      have hr := run_append_grow (P := P) w t ty e i zv hu hi hz ⟨(ρ l).b, 0, none⟩ n c (cur.toList.take n) (by rw [his, hro]; omega) (fun j u hj => by
        rw [add_none, Nat.zero_add]; simp only [World.cell?, hg]
        rw [List.getElem?_take] at hj
        split at hj
        · simpa using hj
        · cases hj) ad 1 c2 [yv] (by rw [his]; rfl) hnw1 (by omega) (by omega) (growslice_fits (by omega) hb2)
      have hge := grownCap_ge w (n + 1) c e
      have hnew : ((w.drew).alloc (.cells ((cur.toList.take n).toArray ++ #[yv] ++ Builtin.zeroCells zv.cells (grownCap w (n + 1) c e - (n + 1))) e)).heap[w.heap.size]? = some (.cells ((cur.toList.take n).toArray ++ #[yv] ++ Builtin.zeroCells zv.cells (grownCap w (n + 1) c e - (n + 1))) e) := by
        show (w.heap.push _)[w.heap.size]? = _; simp
      have hold : ∀ g, g < w.heap.size → ((w.drew).alloc (.cells ((cur.toList.take n).toArray ++ #[yv] ++ Builtin.zeroCells zv.cells (grownCap w (n + 1) c e - (n + 1))) e)).heap[g]? = w.heap[g]? := fun g hg => Below.heap_alloc _ _ _ hg
      obtain ⟨h1, h2⟩ := MRel.allocG (b := ⟨true, true, .obj (.nest [nc'] [])⟩) (cs := (cur.toList.take n).toArray ++ #[yv] ++ Builtin.zeroCells zv.cells (grownCap w (n + 1) c e - (n + 1))) (t := e) (cap := grownCap w (n + 1) c e) (tg := addTg (ρ l).tg (el.at 0).1 (ρ lx).b) (w := w.drew) (ρ := ρ) (m := ⟨frz m.bl lx, m.nx⟩)
        (fun _ g hg => hapw g hg)
        (fun _ => addTg_no (by
          cases hb : (ρ l).tg.testBit w.drew.heap.size with
          | false => rfl
          | true => have := hok.tlt hnb _ hb; exact absurd this (Nat.lt_irrefl _)) fun h0 e => by have := hbt h0; rw [← e] at this; exact Nat.lt_irrefl _ this)
        hmf.drew (fun r c a ha => by cases ha) (fun _ => ⟨rfl, by rw [Array.size_append, size_zeroCells, hzs, Array.size_append, List.size_toArray, hro]; simp; omega⟩) (fun q hq => by
          cases hq
          refine nestok _ _ ((cur.toList.take n).toArray ++ #[yv] ++ Builtin.zeroCells zv.cells (grownCap w (n + 1) c e - (n + 1))) rfl (.inl hnew) (fun j hj => ?_) ?_ rfl (fun g hg => hold g (hok.tlt hnb g hg)) (fun h0 => hold _ (hbt h0))
          · rw [Array.append_assoc, Array.getElem?_append_left (by simp; omega)]
            simp [List.getElem?_take_of_lt hj]
          · rw [Array.append_assoc, Array.getElem?_append_right (by simp; omega)]
            rw [List.size_toArray, hro, Nat.sub_self, Array.getElem?_append_left (by simp)]
            rfl)
      have h1' := h1.less (m' := ⟨(m.nx, some ⟨true, true, .obj (.nest [nc'] [])⟩) :: upd (frz m.bl lx) l none, m.nx + 1⟩) (Nat.le_refl _) (look_sub upd_sub)
      have h2' := h2.less (m2 := ⟨(m.nx, some ⟨true, true, .obj (.nest [nc'] [])⟩) :: upd (frz m.bl lx) l none, m.nx + 1⟩) rfl (look_sub upd_sub)
      refine ⟨_, _, _, hr, ?_, h1', Moves.frz ((Moves.drew (Nat.le_refl _)).trans h2')⟩
      simp only [AV.rel, Rho.new, if_true]
      exact ⟨Nat.lt_succ_self _, _, grownCap w (n + 1) c e, rfl, hge, fun _ => by simp, fun _ => rfl, by omega⟩
  · cases h
theorem NCol.at_void {nc : NCol} {j : Nat} (h : (nc.at j).1 = 0) (r c : Nat) (a : AV) : (nc.at j).2.at r c ≠ some (a, true) := fun ha => by
  obtain ⟨v, _, h2⟩ := NCol.at_col ha
  rw [h] at h2
  simp at h2
theorem NCol.at_flat (nc : NCol) (j : Nat) : (nc.at j).2.nested = false ∧ (∀ q, (nc.at j).2 ≠ .obj q) := by cases nc <;> exact ⟨rfl, fun q h => by cases h⟩
/-- A single slice of a column gets a name. -/
theorem MRel.focus {l c j : Nat} {wr op : Bool} {cs : List NCol} {fo : List (Nat × Nat × AV)} {nc : NCol} (h : MRel ρ m w) (hl : look m.bl l = some ⟨wr, op, .obj (.nest cs fo)⟩) (hc : cs[c]? = some nc) (hj : j < nc.len) :
    ∃ ρ', MRel ρ' ⟨(m.nx, some ⟨false, false, (nc.at j).2⟩) :: upd m.bl l (some ⟨wr, op, .obj (.nest cs ((c, j, .sl false m.nx nc.wide 0 1 (nc.at j).1 none) :: fo))⟩), m.nx + 1⟩ w ∧ (∀ k, k < m.nx → ρ' k = ρ k) ∧
      ∀ g, Wr ρ' ⟨(m.nx, some ⟨false, false, (nc.at j).2⟩) :: upd m.bl l (some ⟨wr, op, .obj (.nest cs ((c, j, .sl false m.nx nc.wide 0 1 (nc.at j).1 none) :: fo))⟩), m.nx + 1⟩ g → Wr ρ m g := by
  obtain ⟨hlt, hok⟩ := h.blk l _ hl
  have hnb : nestB cs = true := nestB_at hc (by omega)
  obtain ⟨htc, hcell⟩ := hok.obj _ rfl hnb
  obtain ⟨A, cp, h1, h2, h3⟩ := hcell c nc j hc hj
  obtain ⟨i', g0, g1, g2, g3⟩ : ∃ i' : LI, i'.cap = cp * nc.wide ∧ (0 < (nc.at j).1 → A = some ⟨i'.b, i'.o, none⟩ ∧ (ρ l).tg.testBit i'.b = true ∧ ∀ (ρ' : Rho) (nx' : Nat), (nc.at j).2.rel ρ' nx' (fun t => w.cell? ⟨i'.b, i'.o + t, none⟩)) ∧ (i'.b < w.heap.size ∨ (nc.at j).1 = 0) ∧ True := by
    by_cases h0 : 0 < (nc.at j).1
    · obtain ⟨b, o, e1, e2, e3⟩ := h3 h0
      exact ⟨⟨b, o, cp * nc.wide, 0⟩, rfl, fun _ => ⟨e1, e2, e3⟩, .inl (hok.tlt hnb b e2), trivial⟩
    · exact ⟨⟨0, 0, cp * nc.wide, 0⟩, rfl, fun h => absurd h h0, .inr (by omega), trivial⟩
  have hext : ∀ k, k < m.nx → ρ.new m.nx i' k = ρ k := fun k hk => by unfold Rho.new; rw [if_neg (by omega)]
  have hself : ρ.new m.nx i' m.nx = i' := by simp [Rho.new]
  have key : ∀ k b, look ((m.nx, some ⟨false, false, (nc.at j).2⟩) :: upd m.bl l (some ⟨wr, op, .obj (.nest cs ((c, j, .sl false m.nx nc.wide 0 1 (nc.at j).1 none) :: fo))⟩)) k = some b →
      (k = m.nx ∧ b = ⟨false, false, (nc.at j).2⟩) ∨ (k = l ∧ k < m.nx ∧ b = ⟨wr, op, .obj (.nest cs ((c, j, .sl false m.nx nc.wide 0 1 (nc.at j).1 none) :: fo))⟩) ∨ (k ≠ l ∧ k < m.nx ∧ look m.bl k = some b) := fun k b hk => by
    rw [look_cons] at hk
    split at hk
    · rename_i e; cases hk; exact .inl ⟨e.symm, rfl⟩
    · rw [look_upd] at hk
      split at hk
      · rename_i e; cases hk; subst e; exact .inr (.inl ⟨rfl, hlt, rfl⟩)
      · rename_i e; exact .inr (.inr ⟨Ne.symm e, (h.blk k b hk).1, hk⟩)
  -- a block as it was, or the one whose slice is named
  have old : ∀ k b, look ((m.nx, some ⟨false, false, (nc.at j).2⟩) :: upd m.bl l (some ⟨wr, op, .obj (.nest cs ((c, j, .sl false m.nx nc.wide 0 1 (nc.at j).1 none) :: fo))⟩)) k = some b → k ≠ m.nx → k < m.nx ∧ ∃ b0, look m.bl k = some b0 ∧ b0.wr = b.wr ∧ b0.cont.nested = b.cont.nested ∧ (¬ b.void → ¬ b0.void) := fun k b hk hne => by
    rcases key k b hk with ⟨e, _⟩ | ⟨rfl, hkl, rfl⟩ | ⟨_, hk', hk⟩
    · exact absurd e hne
    · refine ⟨hkl, _, hl, rfl, rfl, fun _ hv => ?_⟩
      have := hv.2.2.1 _ rfl
      simp [QObj.hollow, hnb] at this
    · exact ⟨hk', b, hk, rfl, rfl, id⟩
  refine ⟨ρ.new m.nx i', ⟨fun k b hk => ?_, fun k b k' b' hk hk' hw hne hnv => ?_, fun k b k' b' hk hk' hw hn2 => ?_⟩, hext, fun g ⟨k, b, hk, hw, hg⟩ => ?_⟩
  · rcases key k b hk with ⟨rfl, rfl⟩ | ⟨rfl, hkl, rfl⟩ | ⟨_, hk', hk⟩
    · refine ⟨Nat.lt_succ_self _, ?_⟩
      rw [hself]
      by_cases h0 : 0 < (nc.at j).1
      · exact ⟨.inl (g2.resolve_right (by omega)), (g1 h0).2.2 _ _, (fun h => by cases h), (fun h => by cases h), fun q hq => absurd hq ((NCol.at_flat nc j).2 q)⟩
      · exact ABlk.ok.any ⟨rfl, rfl, fun q hq => absurd hq ((NCol.at_flat nc j).2 q), fun r c a => NCol.at_void (by omega) r c a⟩ _
    · refine ⟨Nat.lt_succ_of_lt hkl, ?_⟩
      rw [hext _ hkl]
      refine ⟨.inl (hok.lt.resolve_right fun hv => ?_), fun r c' a ha => ?_, hok.free, hok.room, fun q hq => ?_⟩
      · have := hv.2.2.1 _ rfl
        simp [QObj.hollow, hnb] at this
      · simp only [Cont.at, foAt] at ha
        by_cases e : c = c'
        · subst e
          simp only [Nat.beq_refl, Option.some.injEq, Prod.mk.injEq] at ha
          obtain ⟨rfl, hr⟩ := ha
          have hr := Nat.eq_of_beq_eq_true hr
          subst hr
          refine ⟨(List.getElem?_eq_some_iff.1 hc).1, _, h1, ?_⟩
          simp only [AV.rel, hself]
          refine ⟨Nat.lt_succ_self _, A, cp, rfl, h2, fun h0 => ?_, (fun h => by cases h), by rw [g0]; simp⟩
          rw [(g1 h0).1]; simp
        · rw [nbeq_ne e] at ha
          dsimp only at ha
          obtain ⟨p1, x, p2, p3⟩ := hok.rel r c' a (by simp only [Cont.at]; exact ha)
          exact ⟨p1, x, p2, AV.rel.ext hext (Nat.le_succ _) a x p3⟩
      · cases hq
        have := hok.obj _ rfl
        exact this
    · refine ⟨Nat.lt_succ_of_lt hk', ?_⟩
      rw [hext k hk']
      exact (h.blk k b hk).2.ext hext (Nat.le_succ _) (Nat.le_refl _) rfl (fun _ _ _ => rfl)
  · have hkn : k ≠ m.nx := fun e => by
      rcases key k b hk with ⟨_, rfl⟩ | ⟨_, h', _⟩ | ⟨_, h', _⟩
      · cases hw
      · omega
      · omega
    obtain ⟨q1, b0, q2, q3, _, _⟩ := old k b hk hkn
    rw [hext k q1]
    by_cases e : k' = m.nx
    · subst e
      rw [hself]
      rcases key _ b' hk' with ⟨_, rfl⟩ | ⟨_, h', _⟩ | ⟨_, h', _⟩
      · intro e2
        have h0 : 0 < (nc.at j).1 := by
          cases hz : (nc.at j).1 with
          | succ n => omega
          | zero => exact absurd ⟨rfl, rfl, fun q hq => absurd hq ((NCol.at_flat nc j).2 q), fun r c a => NCol.at_void hz r c a⟩ hnv
        have d := h.deep k b0 l _ q2 hl (by rw [q3]; exact hw) hnb
        rw [← e2, (g1 h0).2.1] at d
        cases d
      · omega
      · omega
    · obtain ⟨q1', b0', q2', q3', _, q5⟩ := old k' b' hk' e
      rw [hext k' q1']
      exact h.apart k b0 k' b0' q2 q2' (by rw [q3]; exact hw) hne (q5 hnv)
  · have hkn : k ≠ m.nx := fun e => by
      rcases key k b hk with ⟨_, rfl⟩ | ⟨_, h', _⟩ | ⟨_, h', _⟩
      · cases hw
      · omega
      · omega
    obtain ⟨q1, b0, q2, q3, _, _⟩ := old k b hk hkn
    rw [hext k q1]
    by_cases e : k' = m.nx
    · subst e
      rcases key _ b' hk' with ⟨_, rfl⟩ | ⟨_, h', _⟩ | ⟨_, h', _⟩
      · rw [(NCol.at_flat nc j).1] at hn2; cases hn2
      · omega
      · omega
    · obtain ⟨q1', b0', q2', _, q4, _⟩ := old k' b' hk' e
      rw [hext k' q1']
      exact h.deep k b0 k' b0' q2 q2' (by rw [q3]; exact hw) (by rw [q4]; exact hn2)
  · have hkn : k ≠ m.nx := fun e => by
      rcases key k b hk with ⟨_, rfl⟩ | ⟨_, h', _⟩ | ⟨_, h', _⟩
      · cases hw
      · omega
      · omega
    obtain ⟨q1, b0, q2, q3, _, _⟩ := old k b hk hkn
    rw [hext k q1] at hg
    exact ⟨k, b0, q2, by rw [q3]; exact hw, hg⟩
end
end Go.Proofs.Ytmjpikkloofakaa
