/-
  Arguments of a law as the executor takes them: slices that came in, for reading.
-/
import Derived.Test.YtnkpegdmbocgaaaDoorLaw
import Derived.Test.YtnkpegdmbocgaaaDoorEx12
namespace Go.Proofs.YtnkpegdmbocgaaaDoor
open Go Go.RowKit
theorem lists_of {α : Type} (d : α) {p : Nat → α → Prop} : ∀ (n : Nat), (∀ i, i < n → ∃ x, p i x) → ∃ xs : List α, xs.length = n ∧ ∀ i, i < n → p i (xs.getD i d)
  | 0, _ => ⟨[], rfl, fun i hi => by omega⟩
  | n + 1, h => by
    obtain ⟨xs, hl, hx⟩ := lists_of d n fun i hi => h i (by omega)
    obtain ⟨x, hp⟩ := h n (by omega)
    refine ⟨xs ++ [x], by simp [hl], fun i hi => ?_⟩
    by_cases e : i = n
    · subst e
      have : (xs ++ [x]).getD i d = x := by rw [← hl]; simp
      rw [this]; exact hp
    · have hlt : i < n := by omega
      have : (xs ++ [x]).getD i d = xs.getD i d := by simp [List.getD_eq_getElem?_getD, List.getElem?_append_left (show i < xs.length by omega)]
      rw [this]; exact hx i hlt
/-- What is there of a block that is handed in. -/
structure InB (w : World) (A : Option Addr) (n : Nat) (b : Cont) (i : LI) : Prop where
  at_ : 0 < n → A = some ⟨i.b, i.o, none⟩
  lt : i.b < w.heap.size ∨ (⟨false, false, b⟩ : ABlk).void
  rel : ∀ (ρ : Rho) (nx : Nat), b.rel ρ nx (fun j => w.cell? ⟨i.b, i.o + j, none⟩)
  plain : b.plain = true
theorem InB.ok {w : World} {A : Option Addr} {n : Nat} {b : Cont} {i : LI} (h : InB w A n b i) (ρ : Rho) (nx : Nat) : (⟨false, false, b⟩ : ABlk).ok ρ nx i w :=
  ⟨h.lt, h.rel ρ nx, (fun h => by cases h), (fun h => by cases h), fun q hq => absurd hq (Cont.plain_ne h.plain q)⟩
theorem InB.arg {w : World} {A : Option Addr} {n c l nx : Nat} {b : Cont} {ρ : Rho} (h : InB w A n b (ρ l)) (hl : l < nx) (hnc : n ≤ c) (wd s : Nat) : AV.rel ρ nx (.sl false l wd 0 s n (some c)) (.slice A n c) := by
  simp only [AV.rel]
  refine ⟨hl, A, c, rfl, hnc, fun hn => ?_, (fun h => by cases h), rfl⟩
  rw [h.at_ hn]; simp
/-- Numbers in a slice. -/
theorem in_ints {w : World} {A : Option Addr} {n : Nat} {k : IntKind} {zs : List Int} (h : Reads w w.heap.size 1 A n (zs.map (Value.int k))) : ∃ i, InB w A n (.col (.ints k zs)) i := by
  have hl := h.ints
  by_cases hn : 0 < n
  · obtain ⟨b, o, e, hb, hc⟩ := h.2 hn
    refine ⟨⟨b, o, 0⟩, ⟨fun _ => e, .inl hb, fun ρ nx r c a ha => ?_, rfl⟩⟩
    cases c <;> simp only [Cont.at] at ha <;> try cases ha
    simp only [Col.at, Option.some.injEq, Prod.mk.injEq, decide_eq_true_eq] at ha
    obtain ⟨rfl, hlt⟩ := ha
    exact ⟨by simp [Cont.width], .int k (zs.getD r 0), by simpa [Cont.width] using hc r (.int k (zs.getD r 0)) (by simp [hlt]), by simp [AV.rel]⟩
  · have hz : zs = [] := List.eq_nil_of_length_eq_zero (by omega)
    subst hz
    refine ⟨⟨0, 0, 0⟩, ⟨fun h => absurd h hn, .inr ⟨rfl, rfl, (fun q h => by cases h), fun r c a ha => ?_⟩, fun ρ nx r c a ha => ?_, rfl⟩⟩
    all_goals (cases c <;> simp only [Cont.at, Col.at] at ha <;> simp at ha)
/-- Structs in a slice: column by column. -/
theorem in_rows {w : World} {A : Option Addr} {n : Nat} {cs : List Col} (hv : n = 0 → ∀ (c : Nat) (cl : Col) (r : Nat), cs[c]? = some cl → (cl.at r).2 = false)
    (h : 0 < n → ∃ b o, A = some ⟨b, o, none⟩ ∧ b < w.heap.size ∧ ∀ (c : Nat) (cl : Col) (r : Nat) (v : Value), cs[c]? = some cl → cl.at r = (.val v, true) → w.cell? ⟨b, o + (r * cs.length + c), none⟩ = some v) : ∃ i, InB w A n (.rows cs) i := by
  have hcol : ∀ (cl : Col) r, ∃ v, (cl.at r).1 = .val v := fun cl r => by cases cl <;> exact ⟨_, rfl⟩
  by_cases hn : 0 < n
  · obtain ⟨b, o, e, hb, hc⟩ := h hn
    refine ⟨⟨b, o, 0⟩, ⟨fun _ => e, .inl hb, fun ρ nx r c a ha => ?_, rfl⟩⟩
    simp only [Cont.at] at ha
    split at ha
    · rename_i cl hcl
      simp only [Option.some.injEq] at ha
      obtain ⟨v, hv⟩ := hcol cl r
      rw [ha] at hv
      simp only at hv
      subst hv
      exact ⟨(List.getElem?_eq_some_iff.1 hcl).1, v, hc c cl r v hcl ha, by simp [AV.rel]⟩
    · cases ha
  · have h0 : n = 0 := by omega
    refine ⟨⟨0, 0, 0⟩, ⟨fun h => absurd h hn, .inr ⟨rfl, rfl, (fun q h => by cases h), fun r c a ha => ?_⟩, fun ρ nx r c a ha => ?_, rfl⟩⟩
    all_goals
      simp only [Cont.at] at ha
      split at ha
      · rename_i cl hcl
        simp only [Option.some.injEq] at ha
        have := hv h0 c cl r hcl
        rw [ha] at this
        cases this
      · cases ha
theorem gives_true {g : FuncId} {m m' : MS} {args : List AV} {w : World} {xs : List Value} {ρ : Rho} {fn : Func} {c : Code} (hf : Tryd.prog.funcs[g]? = some fn) (hb : fn.body = some c) (h : Gives_ Tryd.prog fn m.nx (enterA fn c args m) (.val (.bool true)) m') (hro : allRo m.bl = true)
    (hm : MRel ρ m w) (hx : AV.rels ρ m.nx args xs) : Gives g xs.toArray w (.bool true) := law_true hf hb h hro hm hx
end Go.Proofs.YtnkpegdmbocgaaaDoor
