/-
  Values, blocks and memory as an executor has them, and how they stand to the model's: no condition.
-/
import Derived.OrdersIn
import Derived.RangeFuncRecord
import Derived.RangeFuncIn
import Derived.RangeFuncLeaves
import Derived.Below
import Derived.Laws.Cells
import Derived.Laws.IdiomCopy
namespace Go.Proofs.YtnkpegdmbocgaaaDoor
open Go Go.RowKit

/-- Where a name's block lies: its block, the first cell, how many cells there are from there on. -/
structure LI where
  b : Nat
  o : Nat
  cap : Nat
abbrev Rho := Nat → LI

inductive AV where
  | unk
  | val (v : Value)
  | ptr (l w r c : Nat)
  | sl (nn : Bool) (l w r s n : Nat) (cap : Option Nat)
  | gd (t : Nat) (wt g : Bool) (v : AV)
  | clo (f : FuncId) (first captured : List AV)
  | agg (cs : List AV)
  | tup (vs : List AV)
  | yld (l : Nat)

mutual
def AV.rel (ρ : Rho) (nx : Nat) : AV → Value → Prop
  | .unk, _ => True
  | .val v, x => x = v
  | .ptr l w r c, x => l < nx ∧ x = .pointer (some ⟨(ρ l).b, (ρ l).o + (r * w + c), none⟩)
  | .sl nn l w r s n cap, x => l < nx ∧ ∃ A c, x = .slice A n c ∧ n ≤ c ∧ (0 < n → A = some ⟨(ρ l).b, (ρ l).o + r * w, none⟩) ∧ (nn = true → A.isSome = true) ∧ (match cap with | some c' => c = c' | none => r * w + c * (s * w) ≤ (ρ l).cap)
  | .gd _ _ g v, x => (g = true → AV.rel ρ nx v x) ∧ (g = false → x = undef)
  | .clo f fs cs, x => ∃ xs ys : List Value, x = .func (.func f) xs.toArray ys.toArray ∧ AV.rels ρ nx fs xs ∧ AV.rels ρ nx cs ys
  | .agg cs, x => ∃ xs : List Value, x = .agg xs.toArray ∧ AV.rels ρ nx cs xs
  | .tup cs, x => ∃ xs : List Value, x = .tuple xs.toArray ∧ AV.rels ρ nx cs xs
  | .yld l, x => l < nx ∧ x = .func (.yield (ρ l).b) #[] #[]
def AV.rels (ρ : Rho) (nx : Nat) : List AV → List Value → Prop
  | [], xs => xs = []
  | a :: as, xs => ∃ y ys, xs = y :: ys ∧ AV.rel ρ nx a y ∧ AV.rels ρ nx as ys
end

section
variable {ρ ρ' : Rho} {nx nx' : Nat}
mutual
theorem AV.rel.ext (h : ∀ l, l < nx → ρ' l = ρ l) (hn : nx ≤ nx') : ∀ (a : AV) (x : Value), AV.rel ρ nx a x → AV.rel ρ' nx' a x
  | .unk, _, _ => by simp only [AV.rel]
  | .val v, x, hx => by simpa only [AV.rel] using hx
  | .ptr l w r c, x, hx => by
    simp only [AV.rel] at hx ⊢
    rw [h l hx.1]
    exact ⟨by omega, hx.2⟩
  | .sl nn l w r s n cap, x, hx => by
    simp only [AV.rel] at hx ⊢
    rw [h l hx.1]
    exact ⟨by omega, hx.2⟩
  | .gd _ _ g v, x, hx => by
    simp only [AV.rel] at hx ⊢
    exact ⟨fun hg => AV.rel.ext h hn v x (hx.1 hg), hx.2⟩
  | .clo f fs cs, x, hx => by
    simp only [AV.rel] at hx ⊢
    obtain ⟨xs, ys, e, h1, h2⟩ := hx
    exact ⟨xs, ys, e, AV.rels.ext h hn fs xs h1, AV.rels.ext h hn cs ys h2⟩
  | .agg cs, x, hx => by
    simp only [AV.rel] at hx ⊢
    obtain ⟨xs, e, h1⟩ := hx
    exact ⟨xs, e, AV.rels.ext h hn cs xs h1⟩
  | .tup cs, x, hx => by
    simp only [AV.rel] at hx ⊢
    obtain ⟨xs, e, h1⟩ := hx
    exact ⟨xs, e, AV.rels.ext h hn cs xs h1⟩
  | .yld l, x, hx => by
    simp only [AV.rel] at hx ⊢
    rw [h l hx.1]
    exact ⟨by omega, hx.2⟩
theorem AV.rels.ext (h : ∀ l, l < nx → ρ' l = ρ l) (hn : nx ≤ nx') : ∀ (as : List AV) (xs : List Value), AV.rels ρ nx as xs → AV.rels ρ' nx' as xs
  | [], xs, hx => by simpa only [AV.rels] using hx
  | a :: as, xs, hx => by
    simp only [AV.rels] at hx ⊢
    obtain ⟨y, ys, e, h1, h2⟩ := hx
    exact ⟨y, ys, e, AV.rel.ext h hn a y h1, AV.rels.ext h hn as ys h2⟩
end
theorem AV.rels.len : ∀ {as : List AV} {xs : List Value}, AV.rels ρ nx as xs → as.length = xs.length
  | [], xs, h => by simp only [AV.rels] at h; simp [h]
  | a :: as, xs, h => by
    simp only [AV.rels] at h
    obtain ⟨y, ys, rfl, _, h2⟩ := h
    simp [AV.rels.len h2]
theorem AV.rels.at_ : ∀ {as : List AV} {xs : List Value} {i : Nat} {a : AV}, AV.rels ρ nx as xs → as[i]? = some a → ∃ x, xs[i]? = some x ∧ AV.rel ρ nx a x
  | [], xs, i, a, h, hi => by simp at hi
  | a :: as, xs, 0, a', h, hi => by
    simp only [AV.rels] at h
    obtain ⟨y, ys, rfl, h1, h2⟩ := h
    simp at hi
    subst hi
    exact ⟨y, rfl, h1⟩
  | a :: as, xs, i + 1, a', h, hi => by
    simp only [AV.rels] at h
    obtain ⟨y, ys, rfl, h1, h2⟩ := h
    simp at hi ⊢
    exact AV.rels.at_ h2 hi
theorem AV.rels.append : ∀ {as bs : List AV} {xs ys : List Value}, AV.rels ρ nx as xs → AV.rels ρ nx bs ys → AV.rels ρ nx (as ++ bs) (xs ++ ys)
  | [], bs, xs, ys, h, h' => by simp only [AV.rels] at h; subst h; simpa using h'
  | a :: as, bs, xs, ys, h, h' => by
    simp only [AV.rels] at h
    obtain ⟨y, zs, rfl, h1, h2⟩ := h
    simp only [List.cons_append, AV.rels]
    exact ⟨y, _, rfl, h1, AV.rels.append h2 h'⟩
theorem AV.rels.set : ∀ {as : List AV} {xs : List Value} {i : Nat} {a : AV} {x : Value}, AV.rels ρ nx as xs → AV.rel ρ nx a x → AV.rels ρ nx (as.set i a) (xs.set i x)
  | [], xs, i, a, x, h, _ => by simp only [AV.rels] at h; subst h; simp [AV.rels]
  | a :: as, xs, 0, a', x, h, hx => by
    simp only [AV.rels] at h
    obtain ⟨y, ys, rfl, h1, h2⟩ := h
    simp only [List.set_cons_zero, AV.rels]
    exact ⟨x, ys, rfl, hx, h2⟩
  | a :: as, xs, i + 1, a', x, h, hx => by
    simp only [AV.rels] at h
    obtain ⟨y, ys, rfl, h1, h2⟩ := h
    simp only [List.set_cons_succ, AV.rels]
    exact ⟨y, _, rfl, h1, AV.rels.set h2 hx⟩
theorem AV.rels.vals : ∀ (vs : List Value), AV.rels ρ nx (vs.map AV.val) vs
  | [] => by simp [AV.rels]
  | v :: vs => by
    simp only [List.map_cons, AV.rels]
    exact ⟨v, vs, rfl, by simp [AV.rel], AV.rels.vals vs⟩
theorem AV.rels.unks : ∀ (vs : List Value), AV.rels ρ nx (List.replicate vs.length AV.unk) vs
  | [] => by simp [AV.rels]
  | v :: vs => by
    simp only [List.length_cons, List.replicate_succ, AV.rels]
    exact ⟨v, vs, rfl, by simp [AV.rel], AV.rels.unks vs⟩
end

def AV.scalar : AV → Bool
  | .val v => v.oneCell'
  | .ptr .. => true
  | .sl .. => true
  | .clo .. => true
  | _ => false
theorem AV.scalar_rel {ρ : Rho} {nx : Nat} {a : AV} {x : Value} (h : a.scalar = true) (hr : AV.rel ρ nx a x) : x.oneCell' = true := by
  cases a <;> simp only [AV.scalar, Bool.false_eq_true] at h <;> simp only [AV.rel] at hr
  · subst hr; exact h
  · rw [hr.2]; rfl
  · obtain ⟨_, a, c, e, _⟩ := hr; rw [e]; rfl
  · obtain ⟨xs, ys, e, _⟩ := hr; rw [e]; rfl

/-- One column of like cells. -/
inductive Col where
  | ints (k : IntKind) (zs : List Int)
  | bools (bs : List Bool)
  | strs (ss : List ByteArray)
def Col.at : Col → Nat → AV × Bool
  | .ints k zs, r => (.val (.int k (zs.getD r 0)), decide (r < zs.length))
  | .bools bs, r => (.val (.bool (bs.getD r false)), decide (r < bs.length))
  | .strs ss, r => (.val (.string (ss.getD r ⟨#[]⟩)), decide (r < ss.length))
def Col.set : Col → Nat → AV → Option (Col × Bool)
  | .ints k zs, r, .val (.int k' n) => match decide (k = k') with
    | true => some (.ints k (zs.set r n), decide (r < zs.length))
    | false => none
  | .bools bs, r, .val (.bool n) => some (.bools (bs.set r n), decide (r < bs.length))
  | .strs ss, r, .val (.string n) => some (.strs (ss.set r n), decide (r < ss.length))
  | _, _, _ => none
/-- What is no row of cells, or stands at a known place: a package variable's cells; a loop over a function. -/
inductive QObj where
  | glob (g : Nat) (c : Col)
  | loop (st : Nat) (pe : Option Code) (tm : List AV) (ps : List Nat) (asg body : Code)
inductive Cont where
  | cells (l : List AV)
  | col (c : Col)
  | rows (cs : List Col)
  | obj (q : QObj)
def Cont.width : Cont → Nat
  | .cells _ => 1
  | .col _ => 1
  | .rows cs => cs.length
  | .obj _ => 1
def Cont.at : Cont → Nat → Nat → Option (AV × Bool)
  | .cells l, r, 0 => match l[r]? with
    | some a => some (a, true)
    | none => none
  | .col c, r, 0 => some (c.at r)
  | .rows cs, r, c => match cs[c]? with
    | some cl => some (cl.at r)
    | none => none
  | _, _, _ => none
def Cont.set : Cont → Nat → Nat → AV → Option (Cont × Bool)
  | .cells l, r, 0, v => match Nat.blt r l.length with
    | true => match v.scalar with
      | true => some (.cells (l.set r v), true)
      | false => none
    | false => none
  | .col c, r, 0, v => match c.set r v with
    | some (c', b) => some (.col c', b)
    | none => none
  | .rows cs, r, c, v => match cs[c]? with
    | some cl => match cl.set r v with
      | some (cl', b) => some (.rows (cs.set c cl'), b)
      | none => none
    | none => none
  | _, _, _, _ => none
/-- A row of cells holds what is said. -/
def Cont.rel (ρ : Rho) (nx : Nat) (k : Cont) (cell : Nat → Option Value) : Prop :=
  ∀ r c a, k.at r c = some (a, true) → c < k.width ∧ ∃ x, cell (r * k.width + c) = some x ∧ AV.rel ρ nx a x
theorem Cont.rel.ext {ρ ρ' : Rho} {nx nx' : Nat} {k : Cont} {cell cell' : Nat → Option Value} (hr : k.rel ρ nx cell) (h : ∀ l, l < nx → ρ' l = ρ l) (hn : nx ≤ nx') (hc : ∀ i x, cell i = some x → cell' i = some x) : k.rel ρ' nx' cell' := fun r c a ha => by
  obtain ⟨h1, x, h2, h3⟩ := hr r c a ha
  exact ⟨h1, x, hc _ _ h2, AV.rel.ext h hn _ _ h3⟩
theorem Col.at_set {col col' : Col} {r : Nat} {v : AV} {b : Bool} (h : col.set r v = some (col', b)) :
    (∀ r' a, r' ≠ r → col'.at r' = (a, true) → col.at r' = (a, true)) ∧ (∀ a, col'.at r = (a, true) → a = v ∧ v.scalar = true) := by
  cases col with
  | ints k zs =>
    cases v <;> simp only [Col.set] at h <;> try cases h
    rename_i u
    cases u <;> simp only [Col.set] at h <;> try cases h
    rename_i k' n
    by_cases hk : k = k'
    · subst hk
      simp at h
      obtain ⟨rfl, rfl⟩ := h
      refine ⟨fun r' a hne ha => ?_, fun a ha => ?_⟩
      · simp only [Col.at, Prod.mk.injEq, List.length_set] at ha ⊢
        refine ⟨?_, ha.2⟩
        rw [← ha.1]
        simp [List.getElem?_set_ne (Ne.symm hne)]
      · simp only [Col.at, Prod.mk.injEq, List.length_set, decide_eq_true_eq] at ha
        refine ⟨?_, rfl⟩
        rw [← ha.1]
        simp [ha.2]
    · simp [hk] at h
  | bools bs =>
    cases v <;> simp only [Col.set] at h <;> try cases h
    rename_i u
    cases u <;> simp only [Col.set] at h <;> try cases h
    refine ⟨fun r' a hne ha => ?_, fun a ha => ?_⟩
    · simp only [Col.at, Prod.mk.injEq, List.length_set] at ha ⊢
      refine ⟨?_, ha.2⟩
      rw [← ha.1]
      simp [List.getElem?_set_ne (Ne.symm hne)]
    · simp only [Col.at, Prod.mk.injEq, List.length_set, decide_eq_true_eq] at ha
      refine ⟨?_, rfl⟩
      rw [← ha.1]
      simp [ha.2]
  | strs bs =>
    cases v <;> simp only [Col.set] at h <;> try cases h
    rename_i u
    cases u <;> simp only [Col.set] at h <;> try cases h
    refine ⟨fun r' a hne ha => ?_, fun a ha => ?_⟩
    · simp only [Col.at, Prod.mk.injEq, List.length_set] at ha ⊢
      refine ⟨?_, ha.2⟩
      rw [← ha.1]
      simp [List.getElem?_set_ne (Ne.symm hne)]
    · simp only [Col.at, Prod.mk.injEq, List.length_set, decide_eq_true_eq] at ha
      refine ⟨?_, rfl⟩
      rw [← ha.1]
      simp [ha.2]
theorem Col.set_scalar {col col' : Col} {r : Nat} {v : AV} {b : Bool} (h : col.set r v = some (col', b)) : v.scalar = true := by
  cases col <;> cases v <;> simp only [Col.set] at h <;> try cases h
  all_goals (rename_i u; cases u <;> simp only [Col.set] at h <;> first | (cases h; done) | rfl)
theorem rowcol {w r c r' c' : Nat} (hc : c < w) (hc' : c' < w) (h : r * w + c = r' * w + c') : r = r' ∧ c = c' := by
  have h1 : (r * w + c) % w = c := by rw [Nat.mul_comm, Nat.mul_add_mod, Nat.mod_eq_of_lt hc]
  have h2 : (r' * w + c') % w = c' := by rw [Nat.mul_comm, Nat.mul_add_mod, Nat.mod_eq_of_lt hc']
  have e : c = c' := by rw [← h1, ← h2, h]
  subst e
  have h3 : r * w = r' * w := by omega
  exact ⟨Nat.eq_of_mul_eq_mul_right (by omega) h3, rfl⟩
/-- What a store leaves. -/
theorem Cont.rel.set {ρ : Rho} {nx : Nat} {k k' : Cont} {cell cell' : Nat → Option Value} {r c : Nat} {v : AV} {b : Bool} {x : Value} (hr : k.rel ρ nx cell) (hs : k.set r c v = some (k', b)) (hv : AV.rel ρ nx v x)
    (h1 : cell' (r * k.width + c) = some x) (h2 : ∀ i, i ≠ r * k.width + c → cell' i = cell i) : k'.rel ρ nx cell' ∧ k'.width = k.width ∧ v.scalar = true ∧ c < k.width := by
  cases k with
  | cells l =>
    cases c <;> simp only [Cont.set] at hs <;> try cases hs
    cases hb : Nat.blt r l.length <;> simp only [hb] at hs <;> try cases hs
    cases hsc : v.scalar <;> simp only [hsc] at hs <;> try cases hs
    have hlt : r < l.length := by simpa [Nat.blt_eq] using hb
    refine ⟨fun r' c' a ha => ?_, rfl, rfl, by simp [Cont.width]⟩
    cases c' <;> simp only [Cont.at] at ha <;> try cases ha
    refine ⟨by simp [Cont.width], ?_⟩
    by_cases e : r' = r
    · subst e
      simp [hlt] at ha
      subst ha
      exact ⟨x, by simpa [Cont.width] using h1, hv⟩
    · rw [List.getElem?_set_ne (Ne.symm e)] at ha
      obtain ⟨_, y, hy1, hy2⟩ := hr r' 0 a (by simp only [Cont.at]; exact ha)
      exact ⟨y, by
        simp only [Cont.width] at h2 hy1 ⊢
        rw [h2 _ (by omega)]; exact hy1, hy2⟩
  | col col =>
    cases c <;> simp only [Cont.set] at hs <;> try cases hs
    cases hc : col.set r v with
    | none => simp [hc] at hs
    | some p =>
      obtain ⟨col', b'⟩ := p
      simp only [hc, Option.some.injEq, Prod.mk.injEq] at hs
      obtain ⟨rfl, rfl⟩ := hs
      obtain ⟨g1, g2⟩ := Col.at_set hc
      have hsc : v.scalar = true := Col.set_scalar hc
      refine ⟨fun r' c' a ha => ?_, rfl, hsc, by simp [Cont.width]⟩
      cases c' <;> simp only [Cont.at] at ha <;> try cases ha
      refine ⟨by simp [Cont.width], ?_⟩
      by_cases e : r' = r
      · subst e
        obtain ⟨rfl, _⟩ := g2 a (by simpa using ha)
        exact ⟨x, by simpa [Cont.width] using h1, hv⟩
      · obtain ⟨_, y, hy1, hy2⟩ := hr r' 0 a (by simp only [Cont.at]; rw [g1 r' a e (by simpa using ha)])
        exact ⟨y, by
          simp only [Cont.width] at h2 hy1 ⊢
          rw [h2 _ (by omega)]; exact hy1, hy2⟩
  | rows cs =>
    simp only [Cont.set] at hs
    cases hcc : cs[c]? with
    | none => simp [hcc] at hs
    | some col =>
      simp only [hcc] at hs
      cases hc : col.set r v with
      | none => simp [hc] at hs
      | some p =>
        obtain ⟨col', b'⟩ := p
        simp only [hc, Option.some.injEq, Prod.mk.injEq] at hs
        obtain ⟨rfl, rfl⟩ := hs
        obtain ⟨g1, g2⟩ := Col.at_set hc
        have hlt : c < cs.length := (List.getElem?_eq_some_iff.1 hcc).1
        have hsc : v.scalar = true := Col.set_scalar hc
        refine ⟨fun r' c' a ha => ?_, by simp [Cont.width], hsc, by simpa [Cont.width] using hlt⟩
        simp only [Cont.at] at ha
        by_cases ec : c' = c
        · subst ec
          rw [List.getElem?_set_self hlt] at ha
          simp only [Option.some.injEq] at ha
          refine ⟨by simpa [Cont.width] using hlt, ?_⟩
          by_cases e : r' = r
          · subst e
            obtain ⟨rfl, _⟩ := g2 a ha
            exact ⟨x, by simpa [Cont.width] using h1, hv⟩
          · obtain ⟨_, y, hy1, hy2⟩ := hr r' c' a (by simp only [Cont.at, hcc]; rw [g1 r' a e ha])
            refine ⟨y, ?_, hy2⟩
            simp only [Cont.width, List.length_set] at h2 hy1 ⊢
            rw [h2 _ (fun he => e (rowcol hlt hlt he).1)]; exact hy1
        · rw [List.getElem?_set_ne (Ne.symm ec)] at ha
          obtain ⟨hw, y, hy1, hy2⟩ := hr r' c' a (by simp only [Cont.at]; exact ha)
          refine ⟨by simpa [Cont.width] using hw, y, ?_, hy2⟩
          simp only [Cont.width, List.length_set] at h2 hy1 hw ⊢
          rw [h2 _ (fun he => ec (rowcol hw hlt he).2)]; exact hy1
  | obj q => cases c <;> (simp only [Cont.set] at hs; cases hs)
/-- No object of another kind. -/
def Cont.plain : Cont → Bool
  | .obj _ => false
  | _ => true
theorem Cont.plain_ne {k : Cont} (h : k.plain = true) (q : QObj) : k ≠ .obj q := fun e => by rw [e] at h; cases h
theorem Cont.set_plain {k k' : Cont} {r c : Nat} {v : AV} {b : Bool} (h : k.set r c v = some (k', b)) : k'.plain = true ∧ k.plain = true := by
  cases k with
  | cells l =>
    cases c <;> simp only [Cont.set] at h <;> try cases h
    split at h
    · split at h
      · cases h; exact ⟨rfl, rfl⟩
      · cases h
    · cases h
  | col cl =>
    cases c <;> simp only [Cont.set] at h <;> try cases h
    split at h
    · cases h; exact ⟨rfl, rfl⟩
    · cases h
  | rows cs =>
    simp only [Cont.set] at h
    split at h
    · split at h
      · cases h; exact ⟨rfl, rfl⟩
      · cases h
    · cases h
  | obj q => cases c <;> (simp only [Cont.set] at h; cases h)
def stOf : Nat → LoopState
  | 0 => .ready
  | _ => .done
def QObj.ok (ρ : Rho) (nx : Nat) (i : LI) (w : World) : QObj → Prop
  | .glob g c => i.b = g ∧ i.o = 0 ∧ ∃ cs t fz, w.heap[g]? = some (.cells cs t fz) ∧ ∀ (j : Nat) v, c.at j = (.val v, true) → cs[j]? = some v
  | .loop st pe tm ps asg body => ∃ l : Loop, w.heap[i.b]? = some (.loop l) ∧ l.state = stOf st ∧ l.pending = pe ∧ AV.rels ρ nx tm l.tmps.toList ∧ l.params = ps.toArray ∧ l.assign = asg ∧ l.body = body
theorem QObj.ok.ext {ρ ρ' : Rho} {nx nx' : Nat} {i : LI} {w w' : World} {q : QObj} (hq : q.ok ρ nx i w) (h : ∀ l, l < nx → ρ' l = ρ l) (hn : nx ≤ nx') (hb : w'.heap[i.b]? = w.heap[i.b]?) : q.ok ρ' nx' i w' := by
  cases q with
  | glob g vs =>
    obtain ⟨rfl, h0, c, t, fz, h1, h2⟩ := hq
    exact ⟨rfl, h0, c, t, fz, by rw [hb]; exact h1, h2⟩
  | loop st pe tm ps asg body =>
    obtain ⟨l, h1, h2, h3, h4, h5⟩ := hq
    exact ⟨l, by rw [hb]; exact h1, h2, h3, AV.rels.ext h hn _ _ h4, h5⟩
end Go.Proofs.YtnkpegdmbocgaaaDoor
