/-
  What the program's functions hand back.
-/
import Derived.Deep.Quiet
import Derived.Deep.QuietTactic
import Derived.StillTail
import Derived.WalkKit
import Derived.Lib.Hide
import Derived.Test.YtbjealobiblabaaDoorProg
import Derived.WalkSpells
import Derived.WalkLawsBesides
import Derived.Deep.Cut
import Derived.LoopN
import Derived.BigQuiet
import Derived.Test.YtbjealobiblabaaDoorRows
import Derived.ProofKit
import Derived.Deep.Slices
import Derived.Deep.Fields
import Derived.ChangeSame
import Derived.OpenShut
import Derived.IntWalk
import Derived.Shelf.SlSortCmp.NoneTotal
import Derived.Shelf.Lay
import Derived.Shelf.Small.Bits
import Derived.Lib.ItoaNum
import Derived.Lib.BitFns
import Derived.Shelf.Strings.Trim
import Derived.Shelf.Bits.Mul64
import Derived.Test.YtbjealobiblabaaDoorMc
namespace Go.Proofs.YtbjealobiblabaaDoor
open Go Go.RowKit
section
variable {P : Program}
/-- A name for what is handed back. -/
theorem name_slice {ρ ρ1 : Rho} {m : MS} {w w' : World} {c : Cont} {n wd s cp : Nat} {i : LI} {A : Option Addr} (hm : MRel ρ m w) (hg : c.ground = true) (hpl : c.plain = true) (ho : w'.os = w.os) (ht : w'.tape = w.tape) (hout : OutLe w w') (hsz : w.heap.size ≤ w'.heap.size) (hk : ∀ g, g < w.heap.size → w'.heap[g]? = w.heap[g]?)
    (hfr : w.heap.size ≤ i.b ∨ (⟨false, false, c⟩ : ABlk).void) (hok : (⟨false, false, c⟩ : ABlk).ok ρ1 0 i w') (hnc : n ≤ cp) (hA : 0 < n → A = some ⟨i.b, i.o + 0 * wd, none⟩) (hcap : 0 * wd + cp * (s * wd) ≤ i.cap) :
    ∃ ρ', AV.rel ρ' (m.nx + 1) (.sl false m.nx wd 0 s n none) (.slice A n cp) ∧ MRel ρ' ⟨(m.nx, some ⟨false, false, c⟩) :: m.bl, m.nx + 1⟩ w' ∧ Moves m.nx ρ ρ' m ⟨(m.nx, some ⟨false, false, c⟩) :: m.bl, m.nx + 1⟩ w w' := by
  have hext : ∀ l, l < m.nx → (ρ.new m.nx i) l = ρ l := fun l hl => by unfold Rho.new; rw [if_neg (by omega)]
  have hself : (ρ.new m.nx i) m.nx = i := by simp [Rho.new]
  have key : ∀ l b', look ((m.nx, some (⟨false, false, c⟩ : ABlk)) :: m.bl) l = some b' → (l = m.nx ∧ b' = ⟨false, false, c⟩) ∨ (l < m.nx ∧ look m.bl l = some b') := fun l b' hl => by
    rw [look_cons] at hl
    split at hl
    · rename_i e; cases hl; exact .inl ⟨e.symm, rfl⟩
    · exact .inr ⟨(hm.blk l b' hl).1, hl⟩
  refine ⟨ρ.new m.nx i, ?_, ⟨fun l b' hl => ?_, fun l b1 l' b2 h1 h2 hw1 hne hnv => ?_, fun l b1 l' b2 h1 h2 hw1 hn2 => ?_⟩, ⟨hext, Nat.le_succ _, ho, ht, hout, hsz, fun g hg _ => hk g hg, fun g ⟨l, b', h1, h2, h3⟩ => ?_⟩⟩
  · simp only [AV.rel]
    rw [hself]
    exact ⟨Nat.lt_succ_self _, A, cp, rfl, hnc, hA, (fun h => by cases h), hcap⟩
  · rcases key l b' hl with ⟨rfl, rfl⟩ | ⟨hlt, hl⟩
    · refine ⟨Nat.lt_succ_self _, ?_⟩
      rw [hself]
      exact ⟨hok.lt, Cont.rel_ground hg hok.rel, hok.free, hok.room, fun q hq => absurd hq (Cont.plain_ne hpl q)⟩
    · refine ⟨Nat.lt_succ_of_lt hlt, ?_⟩
      rw [hext l hlt]
      have h2 := (hm.blk l b' hl).2
      rcases h2.lt with hlt' | hv
      · exact h2.ext hext (Nat.le_succ _) hsz (hk _ hlt') fun hn' g hg => hk g (h2.tlt hn' g hg)
      · exact ABlk.ok.any hv _
  · rcases key l b1 h1 with ⟨rfl, rfl⟩ | ⟨hlt, hl⟩
    · cases hw1
    · rw [hext l hlt]
      rcases key l' b2 h2 with ⟨rfl, rfl⟩ | ⟨hlt', hl'⟩
      · rw [hself]
        have := (hm.blk l b1 hl).2.lt.resolve_right (wr_not_void hw1)
        have h3 := hfr.resolve_right hnv
        omega
      · rw [hext l' hlt']
        exact hm.apart l b1 l' b2 hl hl' hw1 hne hnv
  · rcases key l b1 h1 with ⟨rfl, rfl⟩ | ⟨hlt, hl⟩
    · cases hw1
    · rw [hext l hlt]
      rcases key l' b2 h2 with ⟨rfl, rfl⟩ | ⟨hlt', hl'⟩
      · have e1 : c.nested = true := hn2
        rw [Cont.nested_plain hpl] at e1; cases e1
      · rw [hext l' hlt']
        exact hm.deep l b1 l' b2 hl hl' hw1 hn2
  · rcases key l b' h1 with ⟨rfl, rfl⟩ | ⟨hlt, hl⟩
    · cases h2
    · rw [hext l hlt] at h3
      exact .inl ⟨l, b', hl, h2, h3⟩
theorem name_nil {ρ : Rho} {m : MS} {w w' : World} {c : Cont} {wd s : Nat} (hm : MRel ρ m w) (hg : c.ground = true) (hpl : c.plain = true) (hv : ∀ r c' a, c.at r c' ≠ some (a, true)) (ho : w'.os = w.os) (ht : w'.tape = w.tape) (hout : OutLe w w') (hsz : w.heap.size ≤ w'.heap.size) (hk : ∀ g, g < w.heap.size → w'.heap[g]? = w.heap[g]?) :
    ∃ ρ', AV.rel ρ' (m.nx + 1) (.sl false m.nx wd 0 s 0 none) (.slice none 0 0) ∧ MRel ρ' ⟨(m.nx, some ⟨false, false, c⟩) :: m.bl, m.nx + 1⟩ w' ∧ Moves m.nx ρ ρ' m ⟨(m.nx, some ⟨false, false, c⟩) :: m.bl, m.nx + 1⟩ w w' :=
  have hvoid : (⟨false, false, c⟩ : ABlk).void := ⟨rfl, rfl, Cont.plain_void hpl, hv⟩
  name_slice (ρ1 := ρ) (i := ⟨0, 0, 0, 0⟩) hm hg hpl ho ht hout hsz hk (.inr hvoid) (ABlk.ok.any hvoid _) (Nat.le_refl _) (fun h => by omega) (by simp)
theorem name_new {ρ ρ1 ρ2 : Rho} {m m1 : MS} {w w' : World} {c : Cont} {k top wd s n cp : Nat} {A : Option Addr} (hm : MRel ρ m w) (hnw : ∀ g, ¬ Wr ρ1 m1 g) (hg : c.ground = true) (hpl : c.plain = true) (hm2 : MRel ρ2 ⟨[(k, some ⟨true, true, c⟩)], top⟩ w') (mv : Moves m1.nx ρ1 ρ2 m1 ⟨[(k, some ⟨true, true, c⟩)], top⟩ w w') (hnc : n ≤ cp) (hA : 0 < n → A = some ⟨(ρ2 k).b, (ρ2 k).o + 0 * wd, none⟩) (hcap : 0 * wd + cp * (s * wd) ≤ (ρ2 k).cap) :
    ∃ ρ', AV.rel ρ' (m.nx + 1) (.sl false m.nx wd 0 s n none) (.slice A n cp) ∧ MRel ρ' ⟨(m.nx, some ⟨false, false, c⟩) :: m.bl, m.nx + 1⟩ w' ∧ Moves m.nx ρ ρ' m ⟨(m.nx, some ⟨false, false, c⟩) :: m.bl, m.nx + 1⟩ w w' := by
  obtain ⟨_, hok⟩ := hm2.blk k ⟨true, true, c⟩ (by simp [look])
  have hfr : w.heap.size ≤ (ρ2 k).b := (mv.fresh (ρ2 k).b ⟨k, ⟨true, true, c⟩, by simp [look], rfl, rfl⟩).resolve_left (hnw _)
  exact name_slice (ρ1 := ρ) (i := ρ2 k) hm hg hpl mv.os mv.tape mv.output mv.size (fun g hg => mv.keep g hg (hnw g)) (.inl hfr) ⟨.inl (hok.lt.resolve_right (wr_not_void rfl)), Cont.rel_ground hg hok.rel, (fun h => by cases h), (fun h => by cases h), fun q hq => absurd hq (Cont.plain_ne hpl q)⟩ hnc hA hcap
/-- What is handed back is a slice, for reading, nil where it is empty. -/
theorem lift_slice {f : FuncId} {m m1 : MS} {args args1 rest : List AV} {n wd s : Nat} {c : Cont} (hro : allRo m1.bl = true) (hg : c.ground = true) (hpl : c.plain = true) (hrest : AV.grounds rest = true)
    (hsim : ∀ (ρ : Rho) (w : World) (xs : List Value), MRel ρ m w → AV.rels ρ m.nx args xs → ∃ ρ1, MRel ρ1 m1 w ∧ AV.rels ρ1 m1.nx args1 xs)
    (h : (n = 0 ∧ (∀ r c' a, c.at r c' ≠ some (a, true)) ∧ ∃ m', FSound P f m1 args1 (.tup (.val (.slice none 0 0) :: rest)) m') ∨
      ∃ k top, FSound P f m1 args1 (.tup (.sl true k wd 0 s n none :: rest)) ⟨[(k, some ⟨true, true, c⟩)], top⟩) :
    FSound P f m args (.tup (.sl false m.nx wd 0 s n none :: rest)) ⟨(m.nx, some ⟨false, false, c⟩) :: m.bl, m.nx + 1⟩ := by
  intro ρ w xs hm hx
  obtain ⟨ρ1, hm1, hx1⟩ := hsim ρ w xs hm hx
  have hnw : ∀ g, ¬ Wr ρ1 m1 g := fun g ⟨l, b, h1, h2, _⟩ => by rw [allRo_look hro h1] at h2; cases h2
  rcases h with ⟨rfl, hv, m', hf⟩ | ⟨k, top, hf⟩
  · refine Went.mono (hf ρ1 w xs hm1 hx1) fun x w' ⟨ρ2, hr, hm2, mv⟩ => ?_
    simp only [AV.rel, AV.rels] at hr
    obtain ⟨_, rfl, y, ys, rfl, rfl, hys⟩ := hr
    obtain ⟨ρ', h1, h2, h3⟩ := name_nil (wd := wd) (s := s) hm hg hpl hv mv.os mv.tape mv.output mv.size (fun g hg => mv.keep g hg (hnw g))
    exact ⟨ρ', by simp only [AV.rel, AV.rels] at h1 ⊢; exact ⟨_, rfl, _, _, rfl, h1, AV.grounds_rels _ _ hrest hys⟩, h2, h3⟩
  · refine Went.mono (hf ρ1 w xs hm1 hx1) fun x w' ⟨ρ2, hr, hm2, mv⟩ => ?_
    simp only [AV.rel, AV.rels] at hr
    obtain ⟨_, rfl, y, ys, rfl, ⟨hkl, A, cp, rfl, hnc, hA, hnn, hcap⟩, hys⟩ := hr
    obtain ⟨ρ', h1, h2, h3⟩ := name_new hm hnw hg hpl hm2 mv hnc hA hcap
    exact ⟨ρ', by simp only [AV.rel, AV.rels] at h1 ⊢; exact ⟨_, rfl, _, _, rfl, h1, AV.grounds_rels _ _ hrest hys⟩, h2, h3⟩
theorem lift_slice1 {f : FuncId} {m m1 : MS} {args args1 : List AV} {n wd s : Nat} {c : Cont} (hro : allRo m1.bl = true) (hg : c.ground = true) (hpl : c.plain = true)
    (hsim : ∀ (ρ : Rho) (w : World) (xs : List Value), MRel ρ m w → AV.rels ρ m.nx args xs → ∃ ρ1, MRel ρ1 m1 w ∧ AV.rels ρ1 m1.nx args1 xs)
    (h : (n = 0 ∧ (∀ r c' a, c.at r c' ≠ some (a, true)) ∧ ∃ m', FSound P f m1 args1 (.val (.slice none 0 0)) m') ∨
      ∃ k top, FSound P f m1 args1 (.sl true k wd 0 s n none) ⟨[(k, some ⟨true, true, c⟩)], top⟩) :
    FSound P f m args (.sl false m.nx wd 0 s n none) ⟨(m.nx, some ⟨false, false, c⟩) :: m.bl, m.nx + 1⟩ := by
  intro ρ w xs hm hx
  obtain ⟨ρ1, hm1, hx1⟩ := hsim ρ w xs hm hx
  have hnw : ∀ g, ¬ Wr ρ1 m1 g := fun g ⟨l, b, h1, h2, _⟩ => by rw [allRo_look hro h1] at h2; cases h2
  rcases h with ⟨rfl, hv, m', hf⟩ | ⟨k, top, hf⟩
  · refine Went.mono (hf ρ1 w xs hm1 hx1) fun x w' ⟨ρ2, hr, hm2, mv⟩ => ?_
    simp only [AV.rel] at hr
    subst hr
    exact name_nil (wd := wd) (s := s) hm hg hpl hv mv.os mv.tape mv.output mv.size (fun g hg => mv.keep g hg (hnw g)) |>.imp fun ρ' h => h
  · refine Went.mono (hf ρ1 w xs hm1 hx1) fun x w' ⟨ρ2, hr, hm2, mv⟩ => ?_
    simp only [AV.rel] at hr
    obtain ⟨hkl, A, cp, rfl, hnc, hA, hnn, hcap⟩ := hr
    exact name_new hm hnw hg hpl hm2 mv hnc hA hcap
end
end Go.Proofs.YtbjealobiblabaaDoor

namespace Go.Proofs.YtbjealobiblabaaDoor
open Go Go.RowKit
section
variable {P : Program}
theorem allRo_noWr {ρ : Rho} {m : MS} (h : allRo m.bl = true) (g : Nat) : ¬ Wr ρ m g := fun ⟨l, b, h1, h2, _⟩ => by rw [allRo_look h h1] at h2; cases h2
/-- A name for what is handed back. -/
theorem name_gen {ρ ρ1 : Rho} {nx1 : Nat} {m : MS} {w w' : World} {c : Cont} {n wd s cp : Nat} {i : LI} {A : Option Addr} (hm : MRel ρ m w) (hg : c.ground = true) (hd : c.nested = true → ∀ g, Wr ρ m g → i.tg.testBit g = false) (ho : w'.os = w.os) (ht : w'.tape = w.tape) (hout : OutLe w w') (hsz : w.heap.size ≤ w'.heap.size) (hk : ∀ g, g < w.heap.size → w'.heap[g]? = w.heap[g]?)
    (hfr : w.heap.size ≤ i.b ∨ (⟨false, false, c⟩ : ABlk).void) (hok : (⟨false, false, c⟩ : ABlk).ok ρ1 nx1 i w') (hnc : n ≤ cp) (hA : 0 < n → A = some ⟨i.b, i.o + 0 * wd, none⟩) (hcap : 0 * wd + cp * (s * wd) ≤ i.cap) :
    ∃ ρ', AV.rel ρ' (m.nx + 1) (.sl false m.nx wd 0 s n none) (.slice A n cp) ∧ MRel ρ' ⟨(m.nx, some ⟨false, false, c⟩) :: m.bl, m.nx + 1⟩ w' ∧ Moves m.nx ρ ρ' m ⟨(m.nx, some ⟨false, false, c⟩) :: m.bl, m.nx + 1⟩ w w' := by
  have hext : ∀ l, l < m.nx → (ρ.new m.nx i) l = ρ l := fun l hl => by unfold Rho.new; rw [if_neg (by omega)]
  have hself : (ρ.new m.nx i) m.nx = i := by simp [Rho.new]
  have key : ∀ l b', look ((m.nx, some (⟨false, false, c⟩ : ABlk)) :: m.bl) l = some b' → (l = m.nx ∧ b' = ⟨false, false, c⟩) ∨ (l < m.nx ∧ look m.bl l = some b') := fun l b' hl => by
    rw [look_cons] at hl
    split at hl
    · rename_i e; cases hl; exact .inl ⟨e.symm, rfl⟩
    · exact .inr ⟨(hm.blk l b' hl).1, hl⟩
  refine ⟨ρ.new m.nx i, ?_, ⟨fun l b' hl => ?_, fun l b1 l' b2 h1 h2 hw1 hne hnv => ?_, fun l b1 l' b2 h1 h2 hw1 hn2 => ?_⟩, ⟨hext, Nat.le_succ _, ho, ht, hout, hsz, fun g hg _ => hk g hg, fun g ⟨l, b', h1, h2, h3⟩ => ?_⟩⟩
  · simp only [AV.rel]
    rw [hself]
    exact ⟨Nat.lt_succ_self _, A, cp, rfl, hnc, hA, (fun h => by cases h), hcap⟩
  · rcases key l b' hl with ⟨rfl, rfl⟩ | ⟨hlt, hl⟩
    · refine ⟨Nat.lt_succ_self _, ?_⟩
      rw [hself]
      exact ⟨hok.lt, Cont.rel_ground hg hok.rel, hok.free, hok.room, fun q hq => (hok.obj q hq).ok_ground (by have hq : c = .obj q := hq; rw [← hq]; exact hg)⟩
    · refine ⟨Nat.lt_succ_of_lt hlt, ?_⟩
      rw [hext l hlt]
      have h2 := (hm.blk l b' hl).2
      rcases h2.lt with hlt' | hv
      · exact h2.ext hext (Nat.le_succ _) hsz (hk _ hlt') fun hn' g hg => hk g (h2.tlt hn' g hg)
      · exact ABlk.ok.any hv _
  · rcases key l b1 h1 with ⟨rfl, rfl⟩ | ⟨hlt, hl⟩
    · cases hw1
    · rw [hext l hlt]
      rcases key l' b2 h2 with ⟨rfl, rfl⟩ | ⟨hlt', hl'⟩
      · rw [hself]
        have := (hm.blk l b1 hl).2.lt.resolve_right (wr_not_void hw1)
        have h3 := hfr.resolve_right hnv
        omega
      · rw [hext l' hlt']
        exact hm.apart l b1 l' b2 hl hl' hw1 hne hnv
  · rcases key l b1 h1 with ⟨rfl, rfl⟩ | ⟨hlt, hl⟩
    · cases hw1
    · rw [hext l hlt]
      rcases key l' b2 h2 with ⟨rfl, rfl⟩ | ⟨hlt', hl'⟩
      · rw [hself]
        exact hd hn2 _ ⟨l, b1, hl, hw1, rfl⟩
      · rw [hext l' hlt']
        exact hm.deep l b1 l' b2 hl hl' hw1 hn2
  · rcases key l b' h1 with ⟨rfl, rfl⟩ | ⟨hlt, hl⟩
    · cases h2
    · rw [hext l hlt] at h3
      exact .inl ⟨l, b', hl, h2, h3⟩
/-- What stands for what, for reading: the same, or known cells as a column. -/
def Cont.says (c0 c : Cont) : Prop := (c0 = c ∧ c.plain = true) ∨ (c.plain = true ∧ ∀ (ρ : Rho) (nx : Nat) (cell : Nat → Option Value), c0.rel ρ nx cell → c.rel ρ nx cell)
theorem says_ints {k : IntKind} {zs : List Int} : (Cont.cells (zs.map fun z => .val (.int k z))).says (.col (.ints k zs)) := by
  refine .inr ⟨rfl, fun ρ nx cell h r c a ha => ?_⟩
  cases c <;> simp only [Cont.at] at ha <;> try cases ha
  simp only [Col.at, Option.some.injEq, Prod.mk.injEq, decide_eq_true_eq] at ha
  obtain ⟨rfl, hlt⟩ := ha
  obtain ⟨_, x, h1, h2⟩ := h r 0 (.val (.int k (zs.getD r 0))) (by simp [Cont.at, hlt])
  exact ⟨by simp [Cont.width], x, h1, h2⟩
theorem says_strs {zs : List ByteArray} : (Cont.cells (zs.map fun z => .val (.string z))).says (.col (.strs zs)) := by
  refine .inr ⟨rfl, fun ρ nx cell h r c a ha => ?_⟩
  cases c <;> simp only [Cont.at] at ha <;> try cases ha
  simp only [Col.at, Option.some.injEq, Prod.mk.injEq, decide_eq_true_eq] at ha
  obtain ⟨rfl, hlt⟩ := ha
  obtain ⟨_, x, h1, h2⟩ := h r 0 (.val (.string (zs.getD r ⟨#[]⟩))) (by simp [Cont.at, hlt])
  exact ⟨by simp [Cont.width], x, h1, h2⟩
theorem says_self {c : Cont} (h : c.plain = true) : c.says c := .inl ⟨rfl, h⟩
/-- What is handed back is a slice: no slices in its cells. -/
theorem lift_list {f : FuncId} {m m1 : MS} {args args1 : List AV} {n wd s : Nat} {c : Cont} (hro : allRo m1.bl = true) (hg : c.ground = true) (hpl : c.plain = true)
    (hsim : ∀ (ρ : Rho) (w : World) (xs : List Value), MRel ρ m w → AV.rels ρ m.nx args xs → ∃ ρ1, MRel ρ1 m1 w ∧ AV.rels ρ1 m1.nx args1 xs)
    (h : (n = 0 ∧ (∀ r c' a, c.at r c' ≠ some (a, true)) ∧ ∃ m', FSound P f m1 args1 (.val (.slice none 0 0)) m') ∨
      ∃ nn k m' op c0 cap, look m'.bl k = some ⟨true, op, c0⟩ ∧ c0.says c ∧ FSound P f m1 args1 (.sl nn k wd 0 s n cap) m') :
    FSound P f m args (.sl false m.nx wd 0 s n none) ⟨(m.nx, some ⟨false, false, c⟩) :: m.bl, m.nx + 1⟩ := by
  intro ρ w xs hm hx
  obtain ⟨ρ1, hm1, hx1⟩ := hsim ρ w xs hm hx
  have hnw := allRo_noWr (ρ := ρ1) hro
  have hd : ∀ i : LI, c.nested = true → ∀ g, Wr ρ m g → i.tg.testBit g = false := fun i hn => by rw [Cont.nested_plain hpl] at hn; cases hn
  rcases h with ⟨rfl, hv, m', hf⟩ | ⟨nn, k, m', op, c0, cap, hl, hsay, hf⟩
  · refine Went.mono (hf ρ1 w xs hm1 hx1) fun x w' ⟨ρ2, hr, hm2, mv⟩ => ?_
    simp only [AV.rel] at hr
    subst hr
    have hvoid : (⟨false, false, c⟩ : ABlk).void := ⟨rfl, rfl, Cont.plain_void hpl, hv⟩
    exact name_gen (ρ1 := ρ) (nx1 := 0) (i := ⟨0, 0, 0, 0⟩) hm hg (hd _) mv.os mv.tape mv.output mv.size (fun g hg => mv.keep g hg (hnw g)) (.inr hvoid) (ABlk.ok.any hvoid _) (Nat.le_refl _) (fun h => by omega) (by simp)
  · refine Went.mono (hf ρ1 w xs hm1 hx1) fun x w' ⟨ρ2, hr, hm2, mv⟩ => ?_
    simp only [AV.rel] at hr
    obtain ⟨_, A, cp, rfl, hnc, hA, _, _⟩ := hr
    obtain ⟨_, hok⟩ := hm2.blk k _ hl
    have hfr : w.heap.size ≤ (ρ2 k).b := (mv.fresh (ρ2 k).b ⟨k, _, hl, rfl, rfl⟩).resolve_left (hnw _)
    refine name_gen (ρ1 := ρ2) (nx1 := m'.nx) (i := ⟨(ρ2 k).b, (ρ2 k).o, cp * (s * wd), 0⟩) hm hg (hd _) mv.os mv.tape mv.output mv.size (fun g hg => mv.keep g hg (hnw g)) (.inl hfr) ⟨.inl (hok.lt.resolve_right (wr_not_void rfl)), ?_, (fun h => by cases h), (fun h => by cases h), fun q hq => absurd hq (Cont.plain_ne hpl q)⟩ hnc hA (by simp)
    rcases hsay with ⟨rfl, _⟩ | ⟨_, hs⟩
    · exact hok.rel
    · exact hs _ _ _ hok.rel
/-- The same, a new one that may be written: it is never empty. -/
theorem lift_listW {f : FuncId} {m m1 : MS} {args args1 : List AV} {n wd s : Nat} {c : Cont} (hro : allRo m1.bl = true) (hg : c.ground = true) (hpl : c.plain = true) (h0 : 0 < n)
    (hsim : ∀ (ρ : Rho) (w : World) (xs : List Value), MRel ρ m w → AV.rels ρ m.nx args xs → ∃ ρ1, MRel ρ1 m1 w ∧ AV.rels ρ1 m1.nx args1 xs)
    (h : ∃ nn k m' op c0 cap, look m'.bl k = some ⟨true, op, c0⟩ ∧ c0.says c ∧ FSound P f m1 args1 (.sl nn k wd 0 s n cap) m') :
    FSound P f m args (.sl false m.nx wd 0 s n none) ⟨(m.nx, some ⟨true, false, c⟩) :: m.bl, m.nx + 1⟩ := by
  intro ρ w xs hm hx
  obtain ⟨ρ1, hm1, hx1⟩ := hsim ρ w xs hm hx
  have hnw := allRo_noWr (ρ := ρ1) hro
  obtain ⟨nn, k, m', op, c0, cap, hl, hsay, hf⟩ := h
  refine Went.mono (hf ρ1 w xs hm1 hx1) fun x w' ⟨ρ2, hr, hm2, mv⟩ => ?_
  simp only [AV.rel] at hr
  obtain ⟨_, A, cp, rfl, hnc, hA, _, _⟩ := hr
  obtain ⟨_, hok⟩ := hm2.blk k _ hl
  have hfr : w.heap.size ≤ (ρ2 k).b := (mv.fresh (ρ2 k).b ⟨k, _, hl, rfl, rfl⟩).resolve_left (hnw _)
  let i : LI := ⟨(ρ2 k).b, (ρ2 k).o, cp * (s * wd), 0⟩
  have hext : ∀ l, l < m.nx → (ρ.new m.nx i) l = ρ l := fun l hl => by unfold Rho.new; rw [if_neg (by omega)]
  have hself : (ρ.new m.nx i) m.nx = i := by simp [Rho.new]
  have hkeep : ∀ g, g < w.heap.size → w'.heap[g]? = w.heap[g]? := fun g hg => mv.keep g hg (hnw g)
  have hrel : c.rel (ρ.new m.nx i) (m.nx + 1) (fun j => w'.cell? ⟨i.b, i.o + j, none⟩) := by
    rcases hsay with ⟨rfl, _⟩ | ⟨_, hs⟩
    · exact Cont.rel_ground hg hok.rel
    · exact Cont.rel_ground hg (hs _ _ _ hok.rel)
  have key : ∀ l b', look ((m.nx, some (⟨true, false, c⟩ : ABlk)) :: m.bl) l = some b' → (l = m.nx ∧ b' = ⟨true, false, c⟩) ∨ (l < m.nx ∧ look m.bl l = some b') := fun l b' hl => by
    rw [look_cons] at hl
    split at hl
    · rename_i e; cases hl; exact .inl ⟨e.symm, rfl⟩
    · exact .inr ⟨(hm.blk l b' hl).1, hl⟩
  refine ⟨ρ.new m.nx i, ?_, ⟨fun l b' hl => ?_, fun l b1 l' b2 h1 h2 hw1 hne hnv => ?_, fun l b1 l' b2 h1 h2 hw1 hn2 => ?_⟩, ⟨hext, Nat.le_succ _, mv.os, mv.tape, mv.output, mv.size, fun g hg _ => hkeep g hg, fun g ⟨l, b', h1, h2, h3⟩ => ?_⟩⟩
  · simp only [AV.rel]
    rw [hself]
    exact ⟨Nat.lt_succ_self _, A, cp, rfl, hnc, hA, (fun h => by cases h), by simp [i]⟩
  · rcases key l b' hl with ⟨rfl, rfl⟩ | ⟨hlt, hl⟩
    · refine ⟨Nat.lt_succ_self _, ?_⟩
      rw [hself]
      exact ⟨.inl (hok.lt.resolve_right (wr_not_void rfl)), hrel, fun _ => hok.free rfl, (fun h => by cases h), fun q hq => absurd hq (Cont.plain_ne hpl q)⟩
    · refine ⟨Nat.lt_succ_of_lt hlt, ?_⟩
      rw [hext l hlt]
      have h2 := (hm.blk l b' hl).2
      rcases h2.lt with hlt' | hv
      · exact h2.ext hext (Nat.le_succ _) mv.size (hkeep _ hlt') fun hn' g hg => hkeep g (h2.tlt hn' g hg)
      · exact ABlk.ok.any hv _
  · rcases key l b1 h1 with ⟨rfl, rfl⟩ | ⟨hlt, hl⟩
    · rcases key l' b2 h2 with ⟨rfl, _⟩ | ⟨hlt', hl'⟩
      · exact absurd rfl hne
      · rw [hself, hext l' hlt']
        have := (hm.blk l' b2 hl').2.lt.resolve_right hnv
        show (ρ l').b ≠ (ρ2 k).b
        omega
    · have := (hm.blk l b1 hl).2.lt.resolve_right (wr_not_void hw1)
      rcases key l' b2 h2 with ⟨rfl, rfl⟩ | ⟨hlt', hl'⟩
      · rw [hself, hext l hlt]
        show (ρ2 k).b ≠ (ρ l).b
        omega
      · rw [hext l hlt, hext l' hlt']
        exact hm.apart l b1 l' b2 hl hl' hw1 hne hnv
  · rcases key l' b2 h2 with ⟨rfl, rfl⟩ | ⟨hlt', hl'⟩
    · have e1 : c.nested = true := hn2
      rw [Cont.nested_plain hpl] at e1; cases e1
    · rw [hext l' hlt']
      have g2 := (hm.blk l' b2 hl').2
      rcases key l b1 h1 with ⟨rfl, rfl⟩ | ⟨hlt, hl⟩
      · rw [hself]
        cases hbt : (ρ l').tg.testBit i.b with
        | false => rfl
        | true => have := g2.tlt hn2 _ hbt; have e : i.b = (ρ2 k).b := rfl; omega
      · rw [hext l hlt]
        exact hm.deep l b1 l' b2 hl hl' hw1 hn2
  · rcases key l b' h1 with ⟨rfl, rfl⟩ | ⟨hlt, hl⟩
    · rw [hself] at h3
      have e : i.b = (ρ2 k).b := rfl
      exact .inr (by omega)
    · rw [hext l hlt] at h3
      exact .inl ⟨l, b', hl, h2, h3⟩
/-- Nothing is written any more. -/
theorem still_mrel {ρ : Rho} {m : MS} {w : World} (h : MRel ρ m w) : MRel ρ ⟨roB m.bl, m.nx⟩ w where
  blk l b hl := by
    obtain ⟨h1, h2, b', h3, h4⟩ := roB_look hl
    obtain ⟨g1, g2⟩ := h.blk l b' h3
    obtain ⟨wr, op, k⟩ := b
    simp only at h1 h2 h4
    subst h1 h2 h4
    exact ⟨g1, g2.lt.imp id fun hv => ⟨rfl, rfl, hv.2.2.1, hv.2.2.2⟩, g2.rel, (fun h => by cases h), (fun h => by cases h), g2.obj⟩
  apart l b l' b' h1 h2 hw := by
    obtain ⟨g1, _⟩ := roB_look h1
    rw [g1] at hw; cases hw
  deep l b l' b' h1 h2 hw := by
    obtain ⟨g1, _⟩ := roB_look h1
    rw [g1] at hw; cases hw
theorem roB_noWr {ρ : Rho} {bl : List (Nat × Option ABlk)} {n : Nat} (g : Nat) : ¬ Wr ρ ⟨roB bl, n⟩ g := fun ⟨l, b, h1, h2, _⟩ => by
  obtain ⟨g1, _⟩ := roB_look h1
  rw [g1] at h2; cases h2
/-- What is handed back is a slice of slices; nothing is written any more where it is handed back. -/
theorem lift_nest {f : FuncId} {m m1 : MS} {args args1 : List AV} {n s : Nat} {cs : List NCol} (hro : allRo m1.bl = true)
    (hsim : ∀ (ρ : Rho) (w : World) (xs : List Value), MRel ρ m w → AV.rels ρ m.nx args xs → ∃ ρ1, MRel ρ1 m1 w ∧ AV.rels ρ1 m1.nx args1 xs)
    (h : (n = 0 ∧ nestB cs = false ∧ ∃ m', FSound P f m1 args1 (.val (.slice none 0 0)) m') ∨
      ∃ nn k m' op fo cap, look m'.bl k = some ⟨true, op, .obj (.nest cs fo)⟩ ∧ FSound P f m1 args1 (.sl nn k cs.length 0 s n cap) m') :
    FSound P f m args (.sl false m.nx cs.length 0 s n none) ⟨(m.nx, some ⟨false, false, .obj (.nest cs [])⟩) :: roB m.bl, m.nx + 1⟩ := by
  intro ρ w xs hm0 hx
  obtain ⟨ρ1, hm1, hx1⟩ := hsim ρ w xs hm0 hx
  have hm := still_mrel hm0
  have hnw := allRo_noWr (ρ := ρ1) hro
  have hd : ∀ i : LI, (Cont.obj (.nest cs [])).nested = true → ∀ g, Wr ρ ⟨roB m.bl, m.nx⟩ g → i.tg.testBit g = false := fun i _ g hg => absurd hg (roB_noWr g)
  have fin : ∀ {w' : World} {v : Value}, (∃ ρ', AV.rel ρ' (m.nx + 1) (.sl false m.nx cs.length 0 s n none) v ∧ MRel ρ' ⟨(m.nx, some ⟨false, false, .obj (.nest cs [])⟩) :: roB m.bl, m.nx + 1⟩ w' ∧ Moves m.nx ρ ρ' ⟨roB m.bl, m.nx⟩ ⟨(m.nx, some ⟨false, false, .obj (.nest cs [])⟩) :: roB m.bl, m.nx + 1⟩ w w') →
      ∃ ρ', AV.rel ρ' (m.nx + 1) (.sl false m.nx cs.length 0 s n none) v ∧ MRel ρ' ⟨(m.nx, some ⟨false, false, .obj (.nest cs [])⟩) :: roB m.bl, m.nx + 1⟩ w' ∧ Moves m.nx ρ ρ' m ⟨(m.nx, some ⟨false, false, .obj (.nest cs [])⟩) :: roB m.bl, m.nx + 1⟩ w w' := fun ⟨ρ', h1, h2, mv⟩ =>
    ⟨ρ', h1, h2, mv.ext, mv.nx, mv.os, mv.tape, mv.output, mv.size, fun g hg _ => mv.keep g hg (roB_noWr g), fun g hg => .inr ((mv.fresh g hg).resolve_left (roB_noWr g))⟩
  rcases h with ⟨rfl, hv, m', hf⟩ | ⟨nn, k, m', op, fo, cap, hl, hf⟩
  · refine Went.mono (hf ρ1 w xs hm1 hx1) fun x w' ⟨ρ2, hr, hm2, mv⟩ => ?_
    simp only [AV.rel] at hr
    subst hr
    have hvoid : (⟨false, false, .obj (.nest cs [])⟩ : ABlk).void := ⟨rfl, rfl, fun q hq => by cases hq; simp [QObj.hollow, hv], fun r c a h => by cases h⟩
    exact fin (name_gen (n := 0) (cp := 0) (A := none) (wd := cs.length) (s := s) (ρ1 := ρ) (nx1 := 0) (i := ⟨0, 0, 0, 0⟩) hm rfl (hd _) mv.os mv.tape mv.output mv.size (fun g hg => mv.keep g hg (hnw g)) (.inr hvoid) (ABlk.ok.any hvoid _) (Nat.le_refl _) (fun h => by omega) (by simp))
  · refine Went.mono (hf ρ1 w xs hm1 hx1) fun x w' ⟨ρ2, hr, hm2, mv⟩ => ?_
    simp only [AV.rel] at hr
    obtain ⟨_, A, cp, rfl, hnc, hA, _, _⟩ := hr
    obtain ⟨_, hok⟩ := hm2.blk k _ hl
    have hfr : w.heap.size ≤ (ρ2 k).b := (mv.fresh (ρ2 k).b ⟨k, _, hl, rfl, rfl⟩).resolve_left (hnw _)
    refine fin (name_gen (ρ1 := ρ2) (nx1 := m'.nx) (i := ⟨(ρ2 k).b, (ρ2 k).o, cp * (s * cs.length), (ρ2 k).tg⟩) hm rfl (hd _) mv.os mv.tape mv.output mv.size (fun g hg => mv.keep g hg (hnw g)) (.inl hfr) ⟨.inl (hok.lt.resolve_right (wr_not_void rfl)), (fun r c a h => by cases h), (fun h => by cases h), (fun h => by cases h), fun q hq => ?_⟩ hnc hA (by simp))
    cases hq
    have := hok.obj _ rfl
    exact this
end
end Go.Proofs.YtbjealobiblabaaDoor

namespace Go.Proofs.YtbjealobiblabaaDoor
open Go Go.RowKit

/-- A world behind 'w' in which all that was there is as it was. -/
structure After (w : World) where
  at_ : World
  below : Below w.heap.size w at_
instance after_some (w : World) : Nonempty (After w) := ⟨⟨w, Below.refl _ _⟩⟩
theorem After.cell {w : World} (x : After w) (a : Addr) (h : a.block < w.heap.size) : x.at_.cell? a = w.cell? a := x.below.cell h
theorem After.frozen {w : World} (x : After w) (a : Addr) (h : a.block < w.heap.size) : x.at_.frozen? a = w.frozen? a := x.below.frozen h
theorem After.block {w : World} (x : After w) (b : Nat) (h : b < w.heap.size) : x.at_.heap[b]? = w.heap[b]? := x.below.block b h
def After.later {w : World} (x : After w) {w' : World} (h : Below x.at_.heap.size x.at_ w') : After w := ⟨w', x.below.trans (h.mono x.below.size)⟩

def Stable (F : World → Prop) : Prop := ∀ w w' : World, Below w.heap.size w w' → F w → F w'
theorem stable_true : Stable (fun _ => True) := fun _ _ _ _ => trivial
theorem stable_blk {F : World → Prop} (h : Stable F) (b : Nat) (o : Obj) : Stable (fun w => F w ∧ w.heap[b]? = some o) := fun w w' hb ⟨hf, ho⟩ => by
  refine ⟨h w w' hb hf, ?_⟩
  rw [hb.block b ?_]
  · exact ho
  · rcases Nat.lt_or_ge b w.heap.size with hlt | hge
    · exact hlt
    · rw [Array.getElem?_eq_none hge] at ho; cases ho

section
variable {P : Program} {ops : Array Oper} {md : Region.Mode} {w0 : World}

def calmUpon (P : Program) (w : World) (v : Value) : Result Next → Prop
  | .ok (.value u) w' => w' = w ∧ u = v
  | .ok .skip w' => w' = w ∧ v = undef
  | .ok (.enter f args) w' => w' = w ∧ Calls P f args w (fun e w'' => e = .returned v ∧ Below w.heap.size w w'')
  | _ => False
def calmAt (P : Program) (o : Oper) (a : Act) (w : World) (v : Value) : Prop := calmUpon P w v ((execOp a.eval o).run P w)
/-- One value, in every world behind w0; a call leaves what was there. -/
def calm (P : Program) (o : Oper) (a : Act) (w0 : World) (next : Act → Prop) : Prop := ∃ v, (∀ x : After w0, calmAt P o a x.at_ v) ∧ next (a.put o.dst v)

def wpCalm (P : Program) (ops : Array Oper) (w0 : World) (Q : Act → Prop) : List Oper → Act → Prop
  | [], a => Q a
  | o :: rest, a => if Region.wanted o (yielded ops a.tmps) then calm P o a w0 (wpCalm P ops w0 Q rest) else wpCalm P ops w0 Q rest (a.put o.dst undef)
theorem wpCalm_nil {Q : Act → Prop} {a : Act} (h : Q a) : wpCalm P ops w0 Q [] a := h
theorem wpCalm_step {Q : Act → Prop} {a : Act} {o : Oper} {rest : List Oper}
    (h : ∀ K : Act → Prop, (∀ a, wpCalm P ops w0 Q rest a → K a) → if Region.wanted o (yielded ops a.tmps) then calm P o a w0 K else K (a.put o.dst undef)) : wpCalm P ops w0 Q (o :: rest) a :=
  h _ (fun _ h => h)

def freshOp (o : Oper) : Bool := match o.op with
  | .alloc _ => true
  | .box _ _ => true
  | _ => false
def freshAt (P : Program) (o : Oper) (a : Act) (w0 : World) (obj : Obj) : Prop :=
  ∀ x : After w0, (execOp a.eval o).run P x.at_ = .ok (.value (.pointer (some ⟨x.at_.heap.size, 0, none⟩))) (x.at_.alloc obj)

/-- Operations that hand a value on, whatever the world. -/
def handsB (o : Oper) : Bool := match o.op with
  | .extract _ _ => true
  | .move _ => true
  | .assign _ => true
  | _ => false
theorem hands_all {o : Oper} {a : Act} {w : World} {v : Value} (ho : handsB o = true) (h : calmAt P o a w v) : ∀ w', (execOp a.eval o).run P w' = .ok (.value v) w' := by
  obtain ⟨dst, op, ty, pos, after, guard⟩ := o
  cases op <;> simp only [handsB, Bool.false_eq_true] at ho
  case move x =>
    intro w'
    have h1 : ∀ w : World, (execOp a.eval ⟨dst, .move x, ty, pos, after, guard⟩).run P w = .ok (.value (a.eval x)) w := fun w => rfl
    unfold calmAt at h
    rw [h1] at h ⊢
    rw [h.2]
  case assign x =>
    intro w'
    have h1 : ∀ w : World, (execOp a.eval ⟨dst, .assign x, ty, pos, after, guard⟩).run P w = .ok (.value (a.eval x)) w := fun w => rfl
    unfold calmAt at h
    rw [h1] at h ⊢
    rw [h.2]
  case extract x i =>
    intro w'
    unfold calmAt at h
    simp only [execOp, Instr.extract] at h ⊢
    generalize a.eval x = y at *
    cases y <;> simp [calmUpon] at h ⊢
    rename_i vs
    generalize vs[i]? = z at *
    cases z <;> simp at h ⊢
    exact h

def preOp (P : Program) (ops : Array Oper) (w0 : World) (i : Nat) (K : Act → Prop) (a : Act) : Prop :=
  match ops[i]? with
  | none => K a
  | some o => if Region.wanted o (yielded ops a.tmps) then calm P o a w0 K else K (a.put o.dst undef)
def newOp (P : Program) (ops : Array Oper) (w0 : World) (o : Oper) (K : Act → (World → Prop) → Prop) (a : Act) (F : World → Prop) : Prop :=
  if Region.wanted o (yielded ops a.tmps) then
    ∃ obj, freshAt P o a w0 obj ∧ ∀ b, w0.heap.size ≤ b → K (a.put o.dst (.pointer (some ⟨b, 0, none⟩))) (fun w => F w ∧ w.heap[b]? = some obj)
  else K (a.put o.dst undef) F
def newOpAt (P : Program) (ops : Array Oper) (w0 : World) (i : Nat) (K : Act → (World → Prop) → Prop) (a : Act) (F : World → Prop) : Prop :=
  match ops[i]? with
  | none => K a F
  | some o => newOp P ops w0 o K a F
def isFresh (ops : Array Oper) (i : Nat) : Bool := match ops[i]? with
  | some o => freshOp o
  | none => false

theorem calm_mono {o : Oper} {a : Act} {K K' : Act → Prop} (h : ∀ a, K a → K' a) (hh : calm P o a w0 K) : calm P o a w0 K' :=
  let ⟨v, h1, h2⟩ := hh
  ⟨v, h1, h _ h2⟩
theorem preOp_mono {i : Nat} {a : Act} {K K' : Act → Prop} (h : ∀ a, K a → K' a) (hh : preOp P ops w0 i K a) : preOp P ops w0 i K' a := by
  unfold preOp at *
  split
  · exact h _ (by simpa [*] using hh)
  · rename_i o ho
    simp only [ho] at hh
    split
    · rename_i hw; simp only [hw, if_true] at hh; exact calm_mono h hh
    · rename_i hw; simp only [hw] at hh; exact h _ hh
theorem newOp_mono {o : Oper} {a : Act} {F : World → Prop} {K K' : Act → (World → Prop) → Prop} (h : ∀ a F, K a F → K' a F) (hh : newOp P ops w0 o K a F) : newOp P ops w0 o K' a F := by
  unfold newOp at *
  split
  · rename_i hw; simp only [hw, if_true] at hh
    obtain ⟨obj, h1, h2⟩ := hh
    exact ⟨obj, h1, fun b hb => h _ _ (h2 b hb)⟩
  · rename_i hw; simp only [hw] at hh; exact h _ _ hh

/-- Whatever order is picked from here on; 'p' says which operations are calm. -/
def anyC (P : Program) (md : Region.Mode) (ops : Array Oper) (w0 : World) (p : List Nat) (Q : Exit → Act → World → Prop) : Nat → Array Bool → Act → (World → Prop) → Prop
  | 0, listed, a, F => Region.ready md ops listed = [] ∧ ∀ x : After w0, F x.at_ → Q .normal a x.at_
  | f + 1, listed, a, F =>
    (Region.ready md ops listed = [] → ∀ x : After w0, F x.at_ → Q .normal a x.at_) ∧
    ∀ j ∈ Region.ready md ops listed,
      if p.contains j then preOp P ops w0 j (fun a' => anyC P md ops w0 p Q f (listed.setIfInBounds j true) a' F) a
      else if isFresh ops j then newOpAt P ops w0 j (anyC P md ops w0 p Q f (listed.setIfInBounds j true)) a F
      else ∀ x : After w0, F x.at_ → wpOp P ops Q j (wpAny P md ops Q f (listed.setIfInBounds j true)) a x.at_

theorem wpAny_of_anyC {p : List Nat} {Q : Exit → Act → World → Prop} : ∀ (f : Nat) (listed : Array Bool) (a : Act) (F : World → Prop), Stable F → anyC P md ops w0 p Q f listed a F →
    ∀ x : After w0, F x.at_ → wpAny P md ops Q f listed a x.at_
  | 0, _, _, _, _, h, x, hx => ⟨h.1, h.2 x hx⟩
  | f + 1, listed, a, F, hF, h, x, hx => by
    refine ⟨fun h0 => h.1 h0 x hx, fun j hj => ?_⟩
    have hj' := h.2 j hj
    by_cases hp : p.contains j = true
    · rw [if_pos hp] at hj'
      unfold preOp at hj'
      unfold wpOp
      cases ho : ops[j]? with
      | none => simp only [ho] at hj' ⊢; exact wpAny_of_anyC f _ _ _ hF hj' x hx
      | some o =>
        simp only [ho] at hj' ⊢
        split
        · rename_i hw
          simp only [hw, if_true] at hj'
          obtain ⟨v, h1, h2⟩ := hj'
          have h3 := h1 x
          unfold calmAt at h3
          refine .inl ?_
          unfold Oper.wp
          generalize (execOp a.eval o).run P x.at_ = r at *
          cases r with
          | ok n w' =>
            cases n <;> simp only [calmUpon] at h3 <;> simp only [Oper.upon]
            case value u =>
              obtain ⟨e1, e2⟩ := h3
              rw [e1, e2]
              exact wpAny_of_anyC f _ _ _ hF h2 x hx
            case skip =>
              obtain ⟨e1, e2⟩ := h3
              rw [e1, ← e2]
              exact wpAny_of_anyC f _ _ _ hF h2 x hx
            case enter fn args =>
              obtain ⟨e1, hc⟩ := h3
              rw [e1]
              exact hc.mono fun e w'' ⟨he, hw''⟩ => by
                subst he
                exact wpAny_of_anyC f _ _ _ hF h2 (x.later hw'') (hF _ _ hw'' hx)
          | halt y w' => simp only [calmUpon] at h3
        · rename_i hw
          simp only [hw] at hj'
          exact wpAny_of_anyC f _ _ _ hF hj' x hx
    · rw [if_neg hp] at hj'
      by_cases hf : isFresh ops j = true
      · rw [if_pos hf] at hj'
        unfold newOpAt newOp at hj'
        unfold wpOp
        cases ho : ops[j]? with
        | none => simp only [ho] at hj' ⊢; exact wpAny_of_anyC f _ _ _ hF hj' x hx
        | some o =>
          simp only [ho] at hj' ⊢
          split
          · rename_i hw
            simp only [hw, if_true] at hj'
            obtain ⟨obj, h1, h2⟩ := hj'
            refine .inl ?_
            unfold Oper.wp
            rw [h1 x]
            simp only [Oper.upon]
            have hbl : Below x.at_.heap.size x.at_ (x.at_.alloc obj) := (Below.refl _ _).alloc (Nat.le_refl _) _
            exact wpAny_of_anyC f _ _ _ (stable_blk hF _ _) (h2 x.at_.heap.size x.below.size) (x.later hbl) ⟨hF _ _ hbl hx, heap_alloc_new x.at_ _⟩
          · rename_i hw
            simp only [hw] at hj'
            exact wpAny_of_anyC f _ _ _ hF hj' x hx
      · rw [if_neg hf] at hj'
        exact hj' x hx

def YieldsC (P : Program) (ops : Array Oper) (w0 : World) (o : Oper) (v : Value) (a : Act) : Prop :=
  (Region.wanted o (yielded ops a.tmps) = true ∧ ∀ x : After w0, calmAt P o a x.at_ v) ∨ (Region.wanted o (yielded ops a.tmps) = false ∧ v = undef)
theorem YieldsC.preOp {i : Nat} {o : Oper} {v : Value} {a : Act} (hi : ops[i]? = some o) (hy : YieldsC P ops w0 o v a) {K : Act → Prop} (h : K (a.put o.dst v)) : preOp P ops w0 i K a := by
  unfold Go.Proofs.YtbjealobiblabaaDoor.preOp
  simp only [hi]
  rcases hy with ⟨hw, hv⟩ | ⟨hw, rfl⟩
  · simp only [hw, if_true]; exact ⟨v, hv, h⟩
  · simp only [hw, Bool.false_eq_true, if_false]; exact h
theorem YieldsC.of_same {o : Oper} {v : Value} {a a' : Act} (hy : YieldsC P ops w0 o v a) (he : execOp a'.eval o = execOp a.eval o)
    (hw : Region.wanted o (yielded ops a'.tmps) = Region.wanted o (yielded ops a.tmps)) : YieldsC P ops w0 o v a' := by
  unfold YieldsC calmAt at *
  rw [he, hw]
  exact hy
theorem yieldsC_of_preOp {i : Nat} {o : Oper} {a : Act} {K : Act → Prop} (hi : ops[i]? = some o) (h : preOp P ops w0 i K a) : ∃ v, YieldsC P ops w0 o v a ∧ K (a.put o.dst v) := by
  unfold preOp at h
  simp only [hi] at h
  by_cases hw : Region.wanted o (yielded ops a.tmps) = true
  · simp only [hw, if_true] at h
    obtain ⟨v, h1, h2⟩ := h
    exact ⟨v, .inl ⟨hw, h1⟩, h2⟩
  · simp only [hw] at h
    exact ⟨undef, .inr ⟨by simpa using hw, rfl⟩, h⟩

theorem preOp_put {j : Nat} {oi oj : Oper} {v : Value} (hj : ops[j]? = some oj) (hap : oi.apart ops oj = true)
    (hsi : ∀ cs b, oi.op ≠ .select cs b) (hsj : ∀ cs b, oj.op ≠ .select cs b) {K : Act → Prop} {a : Act}
    (hy : YieldsC P ops w0 oi v a) (h : preOp P ops w0 j K (a.put oi.dst v)) :
    preOp P ops w0 j (fun a' => YieldsC P ops w0 oi v a' ∧ K (a'.put oi.dst v)) a := by
  obtain ⟨h1, h2, h3⟩ := Oper.apart_spec hap
  have keep : ∀ (a : Act), YieldsC P ops w0 oi v a → ∀ u, YieldsC P ops w0 oi v (a.put oj.dst u) := fun a hy u =>
    hy.of_same (execOp_put oi hsi a oj.dst u h3) (wanted_put oi a oj.dst u h3)
  unfold preOp at *
  simp only [hj] at *
  rw [wanted_put oj a oi.dst v h1] at h
  split
  · rename_i hw
    simp only [hw, if_true] at h
    obtain ⟨u, hu, hn⟩ := h
    refine ⟨u, fun x => ?_, keep a hy u, by rw [← Act.put_comm a v u h2]; exact hn⟩
    have := hu x
    unfold calmAt at *
    rwa [execOp_put oj hsj a oi.dst v h1] at this
  · rename_i hw
    simp only [hw] at h
    exact ⟨keep a hy _, by rw [← Act.put_comm a v undef h2]; exact h⟩

theorem newOp_put {oi oj : Oper} {v : Value} (hap : oi.apart ops oj = true)
    (hsi : ∀ cs b, oi.op ≠ .select cs b) (hsj : ∀ cs b, oj.op ≠ .select cs b) {K : Act → (World → Prop) → Prop} {a : Act} {F : World → Prop}
    (hy : YieldsC P ops w0 oi v a) (h : newOp P ops w0 oj K (a.put oi.dst v) F) :
    newOp P ops w0 oj (fun a' F' => YieldsC P ops w0 oi v a' ∧ K (a'.put oi.dst v) F') a F := by
  obtain ⟨h1, h2, h3⟩ := Oper.apart_spec hap
  have keep : ∀ (a : Act), YieldsC P ops w0 oi v a → ∀ u, YieldsC P ops w0 oi v (a.put oj.dst u) := fun a hy u =>
    hy.of_same (execOp_put oi hsi a oj.dst u h3) (wanted_put oi a oj.dst u h3)
  unfold newOp at *
  rw [wanted_put oj a oi.dst v h1] at h
  split
  · rename_i hw
    simp only [hw, if_true] at h
    obtain ⟨obj, ho, hn⟩ := h
    refine ⟨obj, fun x => ?_, fun b hb => ⟨keep a hy _, by rw [← Act.put_comm a v _ h2]; exact hn b hb⟩⟩
    have := ho x
    rwa [execOp_put oj hsj a oi.dst v h1] at this
  · rename_i hw
    simp only [hw] at h
    exact ⟨keep a hy _, by rw [← Act.put_comm a v undef h2]; exact h⟩

/-- What is listed is closed under 'waits for'. -/
def Closed (md : Region.Mode) (ops : Array Oper) (listed : Array Bool) : Prop :=
  listed.size = ops.size ∧ ∀ j oj, ops[j]? = some oj → listed.getD j false = true → ∀ e ∈ oj.after, Region.binds md e = true → listed.getD e.on false = true
theorem Closed.set_ {i : Nat} {listed : Array Bool} (inv : Closed md ops listed) (hi : i ∈ Region.ready md ops listed) : Closed md ops (listed.setIfInBounds i true) := by
  obtain ⟨_, oi, hoi, hall⟩ := mem_ready.1 hi
  refine ⟨by simp [inv.1], fun j oj hj hl e he hb => ?_⟩
  by_cases hij : i = j
  · subst hij
    have : oj = oi := Option.some.inj (hj.symm.trans hoi)
    subst this
    exact getD_set_true (hall e he hb)
  · rw [getD_set_ne false hij] at hl
    exact getD_set_true (inv.2 j oj hj hl e he hb)

/-- 's' waits, by steps, for 'i'. -/
def reach (md : Region.Mode) (ops : Array Oper) (s : Nat) : Nat → Nat → Bool
  | 0, _ => false
  | f + 1, i => (List.range ops.size).any fun j => Region.waitsFor md ops j i && (decide (j = s) || reach md ops s f j)
theorem reach_spec {s : Nat} {listed : Array Bool} (inv : Closed md ops listed) (hsr : s ∈ Region.ready md ops listed) :
    ∀ (f i : Nat), reach md ops s f i = true → listed.getD i true = true := by
  intro f
  induction f with
  | zero => intro i h; cases h
  | succ f ih =>
    intro i h
    obtain ⟨j, hj, hj2⟩ := List.any_eq_true.1 h
    have hjs : j < ops.size := List.mem_range.1 hj
    simp only [Bool.and_eq_true, Bool.or_eq_true, decide_eq_true_eq] at hj2
    obtain ⟨hw, hr⟩ := hj2
    obtain ⟨oj, hoj, e, he, hb, hon⟩ := Region.waitsFor_spec hw
    have fin : listed.getD i false = true → listed.getD i true = true := fun h => by
      rcases Nat.lt_or_ge i listed.size with h' | h'
      · simp [h'] at h ⊢; exact h
      · simp [Array.getElem?_eq_none h']
    rcases hr with rfl | hr
    · obtain ⟨_, os, hos, hall⟩ := mem_ready.1 hsr
      have : os = oj := Option.some.inj (hos.symm.trans hoj)
      subst this
      have := hall e he hb
      rw [hon] at this
      exact fin this
    · have h2 := ih j hr
      have hjl : j < listed.size := by rw [inv.1]; exact hjs
      have h3 : listed.getD j false = true := by simp [hjl] at h2 ⊢; exact h2
      have := inv.2 j oj hoj h3 e he hb
      rw [hon] at this
      exact fin this
def handsAt (ops : Array Oper) (i : Nat) : Bool := match ops[i]? with
  | some o => handsB o
  | none => false
/-- 's' waits for every operation of 'p'; with 'u': but for those that hand a value on. -/
def sinks (md : Region.Mode) (ops : Array Oper) (u : Bool) (p : List Nat) (s : Nat) : Bool :=
  p.all fun i => (u && handsAt ops i) || reach md ops s ops.size i

/-- A calm operation that may come up now may be taken first. -/
theorem anyC_first {u : Bool} {p : List Nat} {Q : Exit → Act → World → Prop} {i : Nat} {oi : Oper} {v : Value} (hi : ops[i]? = some oi) (hip : p.contains i = true)
    (hsel : ∀ (j : Nat) (o : Oper) cs b, ops[j]? = some o → o.op ≠ .select cs b)
    (hQ : u = true → ∀ c a w d v, Q (.panic c) (Act.put a d v) w → Q (.panic c) a w)
    (hsink : ∀ j, j < ops.size → p.contains j = false → isFresh ops j = false → sinks md ops u p j = true) :
    ∀ (f : Nat) (listed : Array Bool) (a : Act) (F : World → Prop), Closed md ops listed →
      (∀ j oj, ops[j]? = some oj → j ≠ i → listed.getD j true = false → (∀ e ∈ oj.after, Region.binds md e = true → e.on ≠ i) → oi.apart ops oj = true) →
      i ∈ Region.ready md ops listed → YieldsC P ops w0 oi v a →
      anyC P md ops w0 p Q f (listed.setIfInBounds i true) (a.put oi.dst v) F → anyC P md ops w0 p Q (f + 1) listed a F := by
  intro f
  induction f with
  | zero =>
    intro listed a F inv _ hr hy H
    refine ⟨fun h => (by rw [h] at hr; cases hr), fun j hj => ?_⟩
    by_cases hji : j = i
    · subst hji; rw [if_pos hip]; exact hy.preOp hi H
    · have := ready_mono hj hji
      rw [H.1] at this
      cases this
  | succ f ih =>
    intro listed a F inv hfree hr hy H
    refine ⟨fun h => (by rw [h] at hr; cases hr), fun j hj => ?_⟩
    by_cases hji : j = i
    · subst hji; rw [if_pos hip]; exact hy.preOp hi H
    · have h1 := H.2 j (ready_mono hj hji)
      obtain ⟨hjun, oj, hoj, hall⟩ := mem_ready.1 hj
      have hnot : ∀ e ∈ oj.after, Region.binds md e = true → e.on ≠ i := fun e he hb heq => by
        have h1 := hall e he hb
        have h0 := (mem_ready.1 hr).1
        rw [heq] at h1
        rcases Nat.lt_or_ge i listed.size with h' | h'
        · simp [h'] at h0 h1; rw [h0] at h1; cases h1
        · simp [Array.getElem?_eq_none h'] at h1
      have hap := hfree j oj hoj hji hjun hnot
      have hfree' : ∀ k ok, ops[k]? = some ok → k ≠ i → (listed.setIfInBounds j true).getD k true = false →
          (∀ e ∈ ok.after, Region.binds md e = true → e.on ≠ i) → oi.apart ops ok = true := fun k ok hk hki hun hno => by
        refine hfree k ok hk hki ?_ hno
        by_cases hjk : j = k
        · subst hjk; exact hjun
        · rw [getD_set_ne true hjk] at hun; exact hun
      by_cases hp : p.contains j = true
      · rw [if_pos hp] at h1 ⊢
        have h2 := preOp_put hoj hap (fun cs b => hsel i oi cs b hi) (fun cs b => hsel j oj cs b hoj) hy h1
        refine preOp_mono (fun a' h3 => ih (listed.setIfInBounds j true) a' F (inv.set_ hj) hfree' (ready_mono hr (Ne.symm hji)) h3.1 ?_) h2
        rw [Array.setIfInBounds_comm _ _ hji]
        exact h3.2
      · rw [if_neg hp] at h1 ⊢
        by_cases hf : isFresh ops j = true
        · rw [if_pos hf] at h1 ⊢
          unfold newOpAt at h1 ⊢
          simp only [hoj] at h1 ⊢
          have h2 := newOp_put hap (fun cs b => hsel i oi cs b hi) (fun cs b => hsel j oj cs b hoj) hy h1
          refine newOp_mono (fun a' F' h3 => ih (listed.setIfInBounds j true) a' F' (inv.set_ hj) hfree' (ready_mono hr (Ne.symm hji)) h3.1 ?_) h2
          rw [Array.setIfInBounds_comm _ _ hji]
          exact h3.2
        · rw [if_neg hf] at h1 ⊢
          have hjs : j < ops.size := (Array.getElem?_eq_some_iff.1 hoj).1
          have h3 := List.all_eq_true.1 (hsink j hjs (by simpa using hp) (by simpa using hf)) i (by simpa using hip)
          rw [Bool.or_eq_true, Bool.and_eq_true] at h3
          rcases h3 with ⟨hu, hh⟩ | h3
          · have hh' : handsB oi = true := by unfold handsAt at hh; simp only [hi] at hh; exact hh
            have hyy : Yields P ops oi v a := by
              rcases hy with ⟨hw, hv⟩ | hn
              · exact .inl ⟨hw, hands_all hh' (hv ⟨w0, Below.refl _ _⟩)⟩
              · exact .inr hn
            intro x hx
            have hQ' : ∀ c a w, Q (.panic c) (Act.put a oi.dst v) w → Q (.panic c) a w := fun c a w => hQ hu c a w oi.dst v
            have h4 := wpOp_put hoj hap (fun cs b => hsel i oi cs b hi) (fun cs b => hsel j oj cs b hoj) hQ' hyy (h1 x hx)
            refine wpOp_mono (fun a' w' h5 => wpAny_first hi hsel hQ' f (listed.setIfInBounds j true) a' w' hfree' (ready_mono hr (Ne.symm hji)) h5.1 ?_) h4
            rw [Array.setIfInBounds_comm _ _ hji]
            exact h5.2
          · exfalso
            have h3 := reach_spec inv hj _ i h3
            have h0 := (mem_ready.1 hr).1
            rw [h3] at h0
            cases h0

def pick (l : List Oper) : List Nat → List Oper
  | [] => []
  | i :: r => match l[i]? with
    | some o => o :: pick l r
    | none => pick l r

/-- The calm ones in this order, then the others in theirs: each may come up; the others are alone. -/
def seqGo (md : Region.Mode) (ops : Array Oper) : List Nat → Array Bool → Bool
  | [], listed => (Region.ready md ops listed).isEmpty
  | k :: t, listed => decide (Region.ready md ops listed = [k]) && seqGo md ops t (listed.setIfInBounds k true)
def calmGo (md : Region.Mode) (ops : Array Oper) (t : List Nat) : List Nat → Array Bool → Bool
  | [], listed => seqGo md ops t listed
  | i :: r, listed => (Region.ready md ops listed).contains i && (Region.free md ops listed i && calmGo md ops t r (listed.setIfInBounds i true))
def calmB (ops : Array Oper) (u : Bool) (p t : List Nat) : Bool :=
  Region.noSelect ops && (decide (p.length + t.length = ops.size) && (((List.range ops.size).all fun j => p.contains j || (isFresh ops j || sinks .any ops u p j)) && calmGo .any ops t p (Array.replicate ops.size false)))

def wpTail (P : Program) (ops : Array Oper) (w0 : World) (Q : Exit → Act → World → Prop) : List Oper → Act → (World → Prop) → Prop
  | [], a, F => ∀ x : After w0, F x.at_ → Q .normal a x.at_
  | o :: rest, a, F => if freshOp o then newOp P ops w0 o (wpTail P ops w0 Q rest) a F else ∀ x : After w0, F x.at_ → wpList P ops Q (o :: rest) a x.at_

theorem wpAny_of_list {p : List Nat} {Q : Exit → Act → World → Prop} {w : World} : ∀ (t : List Nat) (listed : Array Bool) (a : Act), (∀ i ∈ t, i < ops.size) → seqGo md ops t listed = true →
    wpList P ops Q (pick ops.toList t) a w → wpAny P md ops Q t.length listed a w
  | [], listed, a, _, hB, h => ⟨by simpa [seqGo] using hB, h⟩
  | k :: t, listed, a, hlt, hB, h => by
    simp only [seqGo, Bool.and_eq_true, decide_eq_true_eq] at hB
    refine ⟨fun h1 => (by rw [hB.1] at h1; cases h1), fun i hi => ?_⟩
    rw [hB.1] at hi
    have hik : i = k := by simpa using hi
    subst hik
    have hi' := hlt i (by simp)
    have ho : ops[i]? = some ops[i] := Array.getElem?_eq_getElem hi'
    have hol : ops.toList[i]? = some ops[i] := by simp
    simp only [pick, hol] at h
    have hw : wpOp P ops Q i (wpList P ops Q (pick ops.toList t)) a w := by unfold wpOp; simp only [ho]; exact h
    exact wpOp_mono (fun a' w' h' => wpAny_of_list (p := p) t _ a' (fun j hj => hlt j (by simp [hj])) hB.2 h') hw

theorem anyC_of_tail {p : List Nat} {Q : Exit → Act → World → Prop} : ∀ (t : List Nat) (listed : Array Bool) (a : Act) (F : World → Prop), (∀ i ∈ t, i < ops.size ∧ p.contains i = false) → seqGo md ops t listed = true →
    wpTail P ops w0 Q (pick ops.toList t) a F → anyC P md ops w0 p Q t.length listed a F
  | [], listed, a, F, _, hB, h => ⟨by simpa [seqGo] using hB, h⟩
  | k :: t, listed, a, F, hlt, hB, h => by
    have hB' := hB
    simp only [seqGo, Bool.and_eq_true, decide_eq_true_eq] at hB
    refine ⟨fun h1 => (by rw [hB.1] at h1; cases h1), fun i hi => ?_⟩
    rw [hB.1] at hi
    have hik : i = k := by simpa using hi
    subst hik
    obtain ⟨hi', hip⟩ := hlt i (by simp)
    have ho : ops[i]? = some ops[i] := Array.getElem?_eq_getElem hi'
    have hol : ops.toList[i]? = some ops[i] := by simp
    simp only [pick, hol, wpTail] at h
    rw [if_neg (by rw [hip]; exact Bool.false_ne_true)]
    have hfr : isFresh ops i = freshOp ops[i] := by unfold isFresh; simp only [ho]
    by_cases hf : isFresh ops i = true
    · rw [if_pos hf]
      rw [if_pos (by rw [← hfr]; exact hf)] at h
      unfold newOpAt
      simp only [ho]
      exact newOp_mono (fun a' F' h' => anyC_of_tail t _ a' F' (fun j hj => hlt j (by simp [hj])) hB.2 h') h
    · rw [if_neg hf]
      rw [if_neg (by rw [← hfr]; exact hf)] at h
      intro x hx
      have := wpAny_of_list (P := P) (md := md) (p := p) (Q := Q) (i :: t) listed a (fun j hj => (hlt j hj).1) hB' (by simp only [pick, hol]; exact h x hx)
      exact this.2 i (by rw [hB.1]; simp)

theorem anyC_of_calm {u : Bool} {p t : List Nat} {Q : Exit → Act → World → Prop} (hQ : u = true → ∀ c a w d v, Q (.panic c) (Act.put a d v) w → Q (.panic c) a w) (hsel : Region.noSelect ops = true) (ht : ∀ i ∈ t, i < ops.size ∧ p.contains i = false)
    (hsink : ∀ j, j < ops.size → p.contains j = false → isFresh ops j = false → sinks md ops u p j = true) :
    ∀ (l : List Nat) (listed : Array Bool) (a : Act) (F : World → Prop), (∀ i ∈ l, i < ops.size ∧ p.contains i = true) → Closed md ops listed → calmGo md ops t l listed = true →
      wpCalm P ops w0 (fun a' => wpTail P ops w0 Q (pick ops.toList t) a' F) (pick ops.toList l) a → anyC P md ops w0 p Q (l.length + t.length) listed a F
  | [], listed, a, F, _, _, hB, h => by
    have := anyC_of_tail (P := P) (md := md) (w0 := w0) (p := p) (Q := Q) t listed a F ht hB h
    simpa using this
  | i :: l, listed, a, F, hl, inv, hB, h => by
    simp only [calmGo, Bool.and_eq_true] at hB
    obtain ⟨hr, hf, hB'⟩ := hB
    obtain ⟨hi', hip⟩ := hl i (by simp)
    have ho : ops[i]? = some ops[i] := Array.getElem?_eq_getElem hi'
    have hol : ops.toList[i]? = some ops[i] := by simp
    simp only [pick, hol] at h
    have hst : preOp P ops w0 i (wpCalm P ops w0 (fun a' => wpTail P ops w0 Q (pick ops.toList t) a' F) (pick ops.toList l)) a := by unfold preOp; simp only [ho]; exact h
    obtain ⟨v, hy, hK⟩ := yieldsC_of_preOp ho hst
    have hr' : i ∈ Region.ready md ops listed := by simpa using hr
    have e : (i :: l).length + t.length = (l.length + t.length) + 1 := by simp only [List.length_cons]; omega
    rw [e]
    exact anyC_first ho hip (Region.noSelect_spec hsel) hQ hsink _ listed a F inv (Region.free_spec ho hf) hr' hy
      (anyC_of_calm hQ hsel ht hsink l _ _ F (fun j hj => hl j (by simp [hj])) (inv.set_ hr') hB' hK)

theorem wp_region_calmU {id : Nat} {Q : Exit → Act → World → Prop} {a : Act} {w : World} {l : List Oper} (u : Bool) (p t : List Nat) (hQ : u = true → ∀ c a w d v, Q (.panic c) (Act.put a d v) w → Q (.panic c) a w) (hm : P.follows .mixedOrders = true) (hB : calmB l.toArray u p t = true)
    (hp : (p.all fun i => decide (i < l.length)) = true) (ht : (t.all fun i => decide (i < l.length) && !p.contains i) = true)
    (h : wpCalm P l.toArray w (fun a' => wpTail P l.toArray w Q (pick l t) a' (fun _ => True)) (pick l p) a) : (Code.region id l.toArray true).wp P Q a w := by
  simp only [calmB, Bool.and_eq_true, decide_eq_true_eq] at hB
  obtain ⟨hsel, hlen, hall, hgo⟩ := hB
  refine wp_region_any hm ?_
  have inv0 : Closed .any l.toArray (Array.replicate l.toArray.size false) := ⟨by simp, fun j oj _ hl => (by rw [getD_replicate_false] at hl; cases hl)⟩
  have H := anyC_of_calm (P := P) (md := .any) (w0 := w) (Q := Q) (p := p) (t := t) hQ hsel
    (fun i hi => by
      have := List.all_eq_true.1 ht i hi
      simp only [Bool.and_eq_true, decide_eq_true_eq, Bool.not_eq_true'] at this
      exact ⟨by simpa using this.1, this.2⟩)
    (fun j hj hjp hjf => by
      have := List.all_eq_true.1 hall j (List.mem_range.2 hj)
      rw [hjp, hjf] at this
      simpa using this)
    p _ a (fun _ => True)
    (fun i hi => ⟨by have := List.all_eq_true.1 hp i hi; simpa using this, by simpa using hi⟩) inv0 hgo (by simpa using h)
  rw [hlen] at H
  exact wpAny_of_anyC _ _ _ _ stable_true H ⟨w.drew, (Below.refl _ _).drew⟩ trivial
theorem wp_region_calm {id : Nat} {Q : Exit → Act → World → Prop} {a : Act} {w : World} {l : List Oper} (p t : List Nat) (hm : P.follows .mixedOrders = true) (hB : calmB l.toArray false p t = true)
    (hp : (p.all fun i => decide (i < l.length)) = true) (ht : (t.all fun i => decide (i < l.length) && !p.contains i) = true)
    (h : wpCalm P l.toArray w (fun a' => wpTail P l.toArray w Q (pick l t) a' (fun _ => True)) (pick l p) a) : (Code.region id l.toArray true).wp P Q a w :=
  wp_region_calmU false p t (fun e => by cases e) hm hB hp ht h
end

section
variable {P : Program} {ops : Array Oper} {w0 : World} {Q : Exit → Act → World → Prop} {a : Act} {F : World → Prop} {o : Oper} {rest : List Oper}
theorem wpTail_end (h : ∀ w', Below w0.heap.size w0 w' → F w' → Q .normal a w') : wpTail P ops w0 Q [] a F := fun x hx => h x.at_ x.below hx
theorem wpTail_list (hf : freshOp o = false) (h : ∀ w', Below w0.heap.size w0 w' → F w' → wpList P ops Q (o :: rest) a w') : wpTail P ops w0 Q (o :: rest) a F := by
  unfold wpTail
  rw [if_neg (by rw [hf]; exact Bool.false_ne_true)]
  exact fun x hx => h x.at_ x.below hx
theorem wpTail_fresh {obj : Obj} (hf : freshOp o = true) (hg : o.guard = none) (ho : freshAt P o a w0 obj)
    (h : ∀ b, w0.heap.size ≤ b → wpTail P ops w0 Q rest (a.put o.dst (.pointer (some ⟨b, 0, none⟩))) (fun w => F w ∧ w.heap[b]? = some obj)) : wpTail P ops w0 Q (o :: rest) a F := by
  unfold wpTail
  rw [if_pos hf]
  unfold newOp
  rw [if_pos (by simp [Region.wanted, hg])]
  exact ⟨obj, ho, h⟩
end
end Go.Proofs.YtbjealobiblabaaDoor

namespace Go.Proofs.YtbjealobiblabaaDoor
open Go Go.RowKit
/-- The call gives this value; what was there before is as it was. -/
def Gives (f : FuncId) (args : Array Value) (w : World) (v : Value) : Prop := Calls Tryd.prog f args w fun e w' => e = .returned v ∧ Below w.heap.size w w'
theorem Gives.use {f : FuncId} {args : Array Value} {w : World} {v : Value} {R : Ending → World → Prop} (h : Gives f args w v) (k : ∀ w1, Below w.heap.size w w1 → R (.returned v) w1) : Calls Tryd.prog f args w R :=
  Calls.mono h fun e w1 ⟨he, hb⟩ => by subst he; exact k w1 hb
theorem Gives.calm {f : FuncId} {args : Array Value} {w : World} {v : Value} (h : Gives f args w v) : Calls Tryd.prog f args w (fun e w' => e = .returned v ∧ Below w.heap.size w w') := h
theorem gives {f : FuncId} {args : Array Value} {w : World} {v : Value} (h : Calls Tryd.prog f args w fun e w' => e = .returned v ∧ Below w.heap.size w w') : Gives f args w v := h
theorem Gives.as {f : FuncId} {args : Array Value} {w : World} {v v' : Value} (h : Gives f args w v) (e : v = v') : Gives f args w v' := e ▸ h
theorem below_call {B : Nat} {w W w1 : World} (h : Below B w W) (hb : Below W.heap.size W w1) (hB : B ≤ W.heap.size) : Below B w w1 := h.trans (hb.mono hB)
theorem bcell {W w1 : World} (hb : Below W.heap.size W w1) : (∀ b o, b < W.heap.size → w1.cell? ⟨b, o, none⟩ = W.cell? ⟨b, o, none⟩) ∧ (∀ b o, b < W.heap.size → w1.frozen? ⟨b, o, none⟩ = W.frozen? ⟨b, o, none⟩) :=
  ⟨fun b o h => hb.cell (p := ⟨b, o, none⟩) h, fun b o h => hb.frozen (p := ⟨b, o, none⟩) h⟩
theorem imax (a b : Int) : (if a < b then b else a) = max a b := by omega
theorem imin (a b : Int) : (if b < a then b else a) = min a b := by omega
theorem ret_int {k : IntKind} {a b : Int} (h : a = b) : Ending.returned (.int k a) = .returned (.int k b) := by rw [h]
theorem ret_bool {a b : Bool} (h : a = b) : Ending.returned (.bool a) = .returned (.bool b) := by rw [h]
theorem ret_v {a b : Value} (h : a = b) : Ending.returned a = .returned b := by rw [h]
theorem agg_two {k l : IntKind} {a a' b b' : Int} (h : a = a') (h' : b = b') : Value.agg #[.int k a, .int l b] = .agg #[.int k a', .int l b'] := by rw [h, h']

theorem tup_two {k l : IntKind} {a a' b b' : Int} (h : a = a') (h' : b = b') : Value.tuple #[.int k a, .int l b] = .tuple #[.int k a', .int l b'] := by rw [h, h']
theorem block_of_add (a : Addr) (n : Nat) : (a.add n).block = a.block := by unfold Addr.add; split <;> rfl
theorem add_of_add (a : Addr) (i j : Nat) : (a.add i).add j = a.add (i + j) := by
  unfold Addr.add
  by_cases hi : i = 0 <;> by_cases hj : j = 0 <;> simp [hi, hj, Nat.add_assoc]
/-- The slice value '.slice A n c' holds the cells xs ('size' a element), and lies below block B. -/
def Reads (w : World) (B size : Nat) (A : Option Addr) (n : Nat) (xs : List Value) : Prop :=
  xs.length = n * size ∧ (0 < n → ∃ b o, A = some ⟨b, o, none⟩ ∧ b < B ∧ ∀ j u, xs[j]? = some u → w.cell? ⟨b, o + j, none⟩ = some u)
section
variable {w w' : World} {B B' size n : Nat} {A : Option Addr} {xs : List Value}
theorem Reads.none_ : Reads w B size A 0 [] := ⟨by simp, fun h => absurd h (by omega)⟩
theorem Reads.at_ {k : Nat} (h : Reads w B 1 A n xs) (hk : k < n) : ∃ b o u, A = some ⟨b, o, none⟩ ∧ b < B ∧ xs[k]? = some u ∧ w.cell? ⟨b, o + k, none⟩ = some u := by
  obtain ⟨b, o, e, hb, hc⟩ := h.2 (by omega)
  have hl : k < xs.length := by have := h.1; omega
  exact ⟨b, o, xs[k], e, hb, List.getElem?_eq_getElem hl, hc k _ (List.getElem?_eq_getElem hl)⟩
theorem Reads.keep (h : Reads w B size A n xs) (hk : ∀ p : Addr, p.block < B → w'.cell? p = w.cell? p) : Reads w' B size A n xs :=
  ⟨h.1, fun hn => by
    obtain ⟨b, o, e, hb, hc⟩ := h.2 hn
    exact ⟨b, o, e, hb, fun j u hu => (hk _ hb).trans (hc j u hu)⟩⟩
theorem Reads.more (h : Reads w B size A n xs) (hB : B ≤ B') : Reads w B' size A n xs :=
  ⟨h.1, fun hn => by
    obtain ⟨b, o, e, hb, hc⟩ := h.2 hn
    exact ⟨b, o, e, by omega, hc⟩⟩
theorem Reads.below (h : Reads w B size A n xs) (hb : Below B w w') : Reads w' B size A n xs := h.keep fun _ hp => hb.cell hp
theorem Reads.after {wr : World} (h : Reads wr B size A n xs) (hB : B ≤ wr.heap.size) (x : After wr) : Reads x.at_ x.at_.heap.size size A n xs := ((h.more hB).below x.below).more x.below.size
theorem Reads.alloc (h : Reads w B size A n xs) (hB : B ≤ w.heap.size) (o : Obj) : Reads (w.alloc o) B size A n xs := h.keep fun p hp => World.cell?_alloc_lt w o p (by omega)
theorem Reads.ints {zs : List Int} {k : IntKind} (h : Reads w B 1 A n (zs.map (Value.int k))) : zs.length = n := by have := h.1; simpa using this
end
/-- Block g is just these cells. -/
def Blk (w : World) (g : Nat) (t : TypeId) (cs : Array Value) : Prop := w.heap[g]? = some (.cells cs t (0, 0))
section
variable {w w' : World} {g : Nat} {t : TypeId} {cs : Array Value}
theorem Blk.lt (h : Blk w g t cs) : g < w.heap.size := by
  rcases Nat.lt_or_ge g w.heap.size with hlt | hge
  · exact hlt
  · unfold Blk at h; rw [Array.getElem?_eq_none hge] at h; cases h
theorem Blk.cell (h : Blk w g t cs) (i : Nat) : w.cell? ⟨g, i, none⟩ = cs[i]? := cell_of_row w g i cs t (0, 0) h
theorem Blk.frozen (h : Blk w g t cs) (i : Nat) : w.frozen? ⟨g, i, none⟩ = false := by
  unfold Blk at h
  simp [World.frozen?, h]
theorem Blk.new (w : World) (t : TypeId) (cs : Array Value) : Blk (w.alloc (.cells cs t)) w.heap.size t cs := heap_alloc_new w _
theorem Blk.fresh {w : World} {g : Nat} {t : TypeId} {cs : Array Value} (h : w.heap.size = g) : Blk (w.alloc (.cells cs t)) g t cs := h ▸ Blk.new w t cs
theorem Blk.alloc (h : Blk w g t cs) (o : Obj) : Blk (w.alloc o) g t cs := (Below.heap_alloc w o g h.lt).trans h
theorem Blk.set_ (h : Blk w g t cs) (i : Nat) (u : Value) : Blk (w.setCell ⟨g, i, none⟩ u) g t (cs.setIfInBounds i u) := by
  unfold Blk at h ⊢
  simp [World.setCell, Array.getElem?_modify, h]
theorem Blk.as {cs' : Array Value} (h : Blk w g t cs) (e : cs = cs') : Blk w g t cs' := e ▸ h
theorem Blk.far (h : Blk w g t cs) {p : Addr} (hp : g ≠ p.block) (u : Value) : Blk (w.setCell p u) g t cs := (Below.heap_setCell w p u g hp).trans h
theorem Blk.below {B : Nat} (h : Blk w g t cs) (hb : Below B w w') (hg : g < B) : Blk w' g t cs := (hb.block g hg).trans h
end
theorem Reads.lit {w : World} {t : TypeId} {xs : List Value} {B n size : Nat} (hl : xs.length = n * size) (hB : w.heap.size < B) : Reads (w.alloc (.cells xs.toArray t)) B size (some ⟨w.heap.size, 0, none⟩) n xs :=
  ⟨hl, fun _ => ⟨_, _, rfl, hB, fun j u h => by rw [Nat.zero_add, (Blk.new w t xs.toArray).cell]; simpa using h⟩⟩
/-- The world at a piece of code, known by what is said of it alone. -/
theorem rebase {P : Program} {c : Code} {Q : Exit → Act → World → Prop} {a : Act} {W : World} (F : World → Prop) (hF : F W) (k : ∀ w', F w' → Code.wp P c Q a w') : Code.wp P c Q a W := k W hF
theorem rebase_calls {P : Program} {f : FuncId} {args : Array Value} {R : Ending → World → Prop} {W : World} (F : World → Prop) (hF : F W) (k : ∀ w', F w' → Calls P f args w' R) : Calls P f args W R := k W hF
theorem take_snoc {α : Type} (l : List α) (k : Nat) (h : k < l.length) : l.take (k + 1) = l.take k ++ [l[k]] := List.take_succ_eq_append_getElem h
end Go.Proofs.YtbjealobiblabaaDoor

namespace Go.Proofs.YtbjealobiblabaaDoor
open Go Go.ChangeShapes Go.WideShapes Go.ChangeAt Go.RowKit Go.Deep

theorem Tryd.own : ownKnob Tryd.prog.godebug = none := by kernel_rfl
theorem Tryd.laidOut : laidOutB Tryd.prog = true := by kernel_rfl

section
variable {H : Type} {enc : TypeId × Value → H} {P : Program}
theorem post_of_below {f : Func} {s : ChangeSpec} {apart fresh handsOn again : Bool} {W W' : World} {args : Array Value} {v : Value} {ds gs : List (DataW H)} {before pa pv : List MemPlace}
    (hW : DataW.Whole enc P f.params.toList s.vars apart W args.toList ds gs before)
    (hres : ∀ (b : Nat) (sp : Nat → Bool) (hd : Bool), DataW.TrodAll enc P W' b sp hd f.resultTypes.toList (v.resultList f.resultTypes.size) (s.fn H (ds ++ gs)).results [])
    (hargs : ∀ sp : Nat → Bool, (∀ p ∈ before, sp p.block = true) → DataW.TrodAll enc P W' 0 sp true f.params.toList args.toList (s.fn H (ds ++ gs)).args pa)
    (hvars : ∀ sp : Nat → Bool, (∀ p ∈ before, sp p.block = true) → DataW.TrodVars enc P W' sp s.vars (s.fn H (ds ++ gs)).vars pv)
    (hps : before = pa ++ pv) (hb : Below W.heap.size W W')
    (hok : ∀ (j : Nat) (t : TypeId) (r : Value), f.resultTypes[j]? = some t → (v.resultList f.resultTypes.size)[j]? = some r → Value.okWide P W' .any 0 t r) :
    s.post enc P f apart fresh handsOn again W args v W' := by
  have hlt : ∀ p ∈ before, p.block < W.heap.size := fun p hp => hW.lt p hp
  have hold : ∀ p ∈ before, (fun b => decide (b < W.heap.size)) p.block = true := fun p hp => by simpa using hlt p hp
  refine ⟨ds, gs, before, [], pa, pv, hW, hres _ _ _, hargs _ hold, hvars _ hold, World.keptBut_mono (fun p hp => ⟨hp, ?_⟩) (hb.frame (· ∈ before)), fun _ => ?_⟩
  · rw [hps, List.mem_append] at hp
    exact Or.inr hp
  · obtain ⟨_, _, _, _, _, hz, hn⟩ := hW
    refine ⟨hok, _, _, ([] ++ pa) ++ pv, ⟨[] ++ pa, pv, trodAll_append (hargs _ (fun _ _ => rfl)) (hres _ _ _), hvars _ (fun _ _ => rfl), rfl, ?_, ?_⟩, ?_⟩
    · intro b off hp
      have hin : MemPlace.cell b off ∈ before := by rw [hps]; simpa using hp
      rw [hb.frozen (hlt _ hin)]
      exact hz b off hin
    · intro ha
      have := hn ha
      rw [hps] at this
      simpa using this
    · intro p hp _
      rw [hps]
      simpa using hp

/-- All arguments read as they did. -/
theorem trodAll_stays (hl : laidOutB P = true) {W W' : World} {sp : Nat → Bool} (hb : Below W.heap.size W W') :
    ∀ (ts : List TypeId) (vs : List Value) (ds : List (DataW H)) (ps : List MemPlace), (ts.all fun t => P.readableRec t && decide (t < P.types.size)) = true →
      DataW.TrodAll enc P W 0 (fun _ => true) true ts vs ds ps → (∀ p ∈ ps, p.block < W.heap.size) → (∀ p ∈ ps, sp p.block = true) → DataW.TrodAll enc P W' 0 sp true ts vs ds ps
  | [], [], [], _, _, h, _, _ => h
  | t :: ts, v :: vs, d :: ds, _, hr, ⟨p, q, h1, h2, e⟩, hlt, hs => by
    subst e
    simp only [List.all_cons, Bool.and_eq_true, decide_eq_true_eq] at hr
    exact ⟨p, q, WideElems.Trod_stays hl hr.1.1 hr.1.2 h1 (fun x hx => hb.same (hlt x (by simp [hx]))) (fun x hx => hs x (by simp [hx])),
      trodAll_stays hl hb ts vs ds q hr.2 h2 (fun x hx => hlt x (by simp [hx])) (fun x hx => hs x (by simp [hx])), rfl⟩

/-- A law that gives true: all that the row asks behind the call. -/
theorem law_post {f : Func} {s : ChangeSpec} {apart fresh handsOn again : Bool} {W W' : World} {args : Array Value} {ds gs : List (DataW H)} {before : List MemPlace} {T : TypeId}
    (hl : laidOutB P = true) (hr : (f.params.toList.all fun t => P.readableRec t && decide (t < P.types.size)) = true) (hres : f.resultTypes = #[T]) (hT : P.underlying T = some .bool) (hvs : s.vars = [])
    (hW : DataW.Whole enc P f.params.toList s.vars apart W args.toList ds gs before)
    (hfn : (s.fn H ds).results = [.lit (.bool true)] ∧ (s.fn H ds).args = ds ∧ (s.fn H ds).vars = [])
    (hb : Below W.heap.size W W') : s.post enc P f apart fresh handsOn again W args (.bool true) W' := by
  have hW0 := hW
  obtain ⟨p, q, hA, hV, e, _, _⟩ := hW0
  rw [hvs] at hV
  obtain ⟨rfl, rfl⟩ := trodVars_none hV
  have e' : before = p := by simpa using e
  subst e'
  have hds : s.fn H (ds ++ []) = s.fn H ds := by rw [List.append_nil]
  refine post_of_below (pa := before) (pv := []) hW (fun b sp hd => ?_) (fun sp hs => ?_) (fun sp hs => ?_) (by simp) hb ?_
  · rw [hds, hfn.1, hres]
    exact trodAll_mk1 (shut_bool hT true)
  · rw [hds, hfn.2.1]
    exact trodAll_stays hl hb _ _ _ _ hr hA (fun x hx => hW.lt x hx) hs
  · rw [hds, hfn.2.2, hvs]
    rfl
  · exact ok_one hres rfl (okWide_bool_mk hT true)
end

section
variable {H : Type} {enc : TypeId × Value → H} {P : Program} {w : World} {base : Nat} {spare : Nat → Bool} {held : Bool}
theorem cell_lt {w : World} {a : Addr} {v : Value} (h : w.cell? a = some v) : a.block < w.heap.size := by
  rcases Nat.lt_or_ge a.block w.heap.size with hlt | hge
  · exact hlt
  · simp [World.cell?, Array.getElem?_eq_none hge] at h
/-- A slice of numbers came in. -/
theorem open_reads {r : Reach} {b0 : Nat} {t e : TypeId} {k : IntKind} {v : Value} {d : DataW H} {ps : List MemPlace} (ht : P.underlying t = some (.slice e)) (he : P.underlying e = some (.int k)) (hc : P.cellsOf e = 1)
    (hval : Value.okWide P w r b0 t v) (h : DataW.Trod enc P w base (fun _ => true) held t v d ps) :
    ∃ (A : Option Addr) (n c : Nat) (zs : List Int), v = .slice A n c ∧ n ≤ c ∧ c ≤ maxLen ∧ Reads w w.heap.size 1 A n (zs.map (Value.int k)) ∧ ∀ z ∈ zs, (Lit.int k z).wf = true := by
  obtain ⟨fuel, hf⟩ := h
  obtain ⟨A, n, c, rfl⟩ := okWide_slice ht hval
  rcases open_ints ht he hc hf with ⟨hcs, hx⟩ | ⟨a, len, cap, zs, hcs, _, hl, hm, hz, hx, hcell, hwz⟩
  · simp [Value.cells] at hcs
    obtain ⟨rfl, rfl, rfl⟩ := hcs
    exact ⟨none, 0, 0, [], rfl, Nat.le_refl _, by simp [maxLen], Reads.none_, by simp⟩
  · simp [Value.cells] at hcs
    obtain ⟨rfl, rfl, rfl⟩ := hcs
    simp only [if_true] at hz
    refine ⟨some a, n, c, zs.take n, rfl, hl, hm, ⟨by simp; omega, fun hn => ?_⟩, fun z h => hwz z (List.mem_of_mem_take h)⟩
    have h0 := hcell 0 (by omega)
    have hs : a.spot = none := by simpa [Addr.add] using World.cell?_spot h0
    obtain ⟨b, o, sp⟩ := a
    simp only at hs
    subst hs
    refine ⟨b, o, rfl, by simpa [Addr.add] using cell_lt h0, fun j u hu => ?_⟩
    rw [List.getElem?_map] at hu
    rcases Nat.lt_or_ge j n with hj | hj
    · have hjz : j < zs.length := by omega
      rw [List.getElem?_take, if_pos hj, List.getElem?_eq_getElem hjz] at hu
      have h1 := hcell j hjz
      have e1 : (⟨b, o, none⟩ : Addr).add j = ⟨b, o + j, none⟩ := by unfold Addr.add; split <;> simp_all
      rw [e1] at h1
      rw [h1, ← hu]
      simp [hjz]
    · rw [List.getElem?_eq_none (by simp; omega)] at hu
      cases hu
/-- A struct of one-cell fields came in, by value. -/
theorem open_struct {r : Reach} {b0 : Nat} {t : TypeId} {fs : Array Field} {v : Value} {d : DataW H} {p : List MemPlace} (hs : P.underlying t = some (.struct fs)) (hone : oneCellFields P fs = true) (hC : P.cellsOf t = fs.size)
    (hv : Value.okWide P w r b0 t v) (h : DataW.Trod enc P w base spare held t v d p) :
    ∃ l : List Value, v = .agg l.toArray ∧ l.length = fs.size ∧ ∀ (j : Nat) (f : Field) (u : Value), fs[j]? = some f → l[j]? = some u → ∃ n y, DataW.trod enc P w base spare held n f.type [u] = some y := by
  obtain ⟨cs, rfl, hsz⟩ := okWide_struct hs hv
  obtain ⟨l⟩ := cs
  have hl : l.length = fs.size := by rw [← hC, ← hsz]; rfl
  refine ⟨l, rfl, hl, fun j f u hj hu => ?_⟩
  obtain ⟨fuel, hf⟩ := h
  obtain ⟨xs, n, _, _, _, hlen, hg⟩ := DataW.trod_struct hs hf
  obtain ⟨o, k⟩ := hone_of hone j f hj
  have h1 := hg j f hj
  have hjl : j < fs.size := (Array.getElem?_eq_some_iff.1 hj).1
  have hone' : (l.drop j).take 1 = [u] := by
    have hjl' : j < l.length := by omega
    rw [List.drop_eq_getElem_cons hjl']
    rw [List.getElem?_eq_getElem hjl'] at hu
    simp at hu
    simp [hu]
  have hx : xs[j]? = some (xs[j]'(by omega)) := List.getElem?_eq_getElem (by omega)
  have e2 : (Value.agg l.toArray).cells.toList = l := by simp [Value.cells]
  rw [o, k, e2, hone'] at h1
  exact ⟨n, _, h1.trans hx⟩
theorem list2 {α : Type} {l : List α} (h : l.length = 2) : ∃ a b, l = [a, b] := by
  match l, h with
  | [a, b], _ => exact ⟨a, b, rfl⟩
theorem list3 {α : Type} {l : List α} (h : l.length = 3) : ∃ a b c, l = [a, b, c] := by
  match l, h with
  | [a, b, c], _ => exact ⟨a, b, c, rfl⟩
theorem list4 {α : Type} {l : List α} (h : l.length = 4) : ∃ a b c d, l = [a, b, c, d] := by
  match l, h with
  | [a, b, c, d], _ => exact ⟨a, b, c, d, rfl⟩
theorem list5 {α : Type} {l : List α} (h : l.length = 5) : ∃ a b c d e, l = [a, b, c, d, e] := by
  match l, h with
  | [a, b, c, d, e], _ => exact ⟨a, b, c, d, e, rfl⟩
/-- A field that is a number. -/
theorem field_int {t : TypeId} {k : IntKind} {v : Value} (ht : P.underlying t = some (.int k)) (h : ∃ n y, DataW.trod enc P w base spare held n t [v] = some y) : ∃ z, v = .int k z ∧ (Lit.int k z).wf = true := by
  obtain ⟨n, y, h⟩ := h
  obtain ⟨z, h1, _, hw⟩ := DataW.trod_int ht h
  simp at h1
  exact ⟨z, h1, hw⟩
theorem field_bool {t : TypeId} {v : Value} (ht : P.underlying t = some .bool) (h : ∃ n y, DataW.trod enc P w base spare held n t [v] = some y) : ∃ z, v = .bool z := by
  obtain ⟨n, y, h⟩ := h
  obtain ⟨z, h1, _⟩ := DataW.trod_bool ht h
  simp at h1
  exact ⟨z, h1⟩
theorem wf_i64 {z : Int} (h : (Lit.int .i64 z).wf = true) : -9223372036854775808 ≤ z ∧ z ≤ 9223372036854775807 := by
  simp only [Lit.wf, Bool.and_eq_true, decide_eq_true_eq] at h
  have e1 : IntKind.min .i64 = -9223372036854775808 := by decide
  have e2 : IntKind.max .i64 = 9223372036854775807 := by decide
  rw [e1, e2] at h
  exact h
/-- A slice of structs of one-cell fields came in. -/
theorem open_structs {r : Reach} {b0 : Nat} {t e : TypeId} {fs : Array Field} {v : Value} {d : DataW H} {ps : List MemPlace} (ht : P.underlying t = some (.slice e)) (he : P.underlying e = some (.struct fs))
    (hone : oneCellFields P fs = true) (hC : P.cellsOf e = fs.size) (hpos : 0 < fs.size) (hval : Value.okWide P w r b0 t v) (h : DataW.Trod enc P w base (fun _ => true) held t v d ps) :
    ∃ (A : Option Addr) (n c : Nat), v = .slice A n c ∧ n ≤ c ∧ c ≤ maxLen ∧ (0 < n → ∃ b o, A = some ⟨b, o, none⟩ ∧ b < w.heap.size ∧
      ∀ i, i < n → ∀ (j : Nat) (f : Field), fs[j]? = some f → ∃ u, w.cell? ⟨b, o + (i * fs.size + j), none⟩ = some u ∧ ∃ m y, DataW.trod enc P w base (fun _ => true) held m f.type [u] = some y) := by
  obtain ⟨fuel, hf⟩ := h
  obtain ⟨A, n, c, rfl⟩ := okWide_slice ht hval
  rcases open_slice ht hf with ⟨hcs, hx⟩ | ⟨a, len, cap, m, k, D, Pl, hcs, _, hl, hm, hmm, hx, hi⟩
  · simp [Value.cells] at hcs
    obtain ⟨rfl, rfl, rfl⟩ := hcs
    exact ⟨none, 0, 0, rfl, Nat.le_refl _, by simp [maxLen], fun h => absurd h (by omega)⟩
  · simp [Value.cells] at hcs
    obtain ⟨rfl, rfl, rfl⟩ := hcs
    simp only [if_true] at hmm
    refine ⟨some a, n, c, rfl, hl, hm, fun hn => ?_⟩
    have each : ∀ i, i < n → ∀ (j : Nat) (f : Field), fs[j]? = some f → ∃ u, w.cell? (a.add (i * fs.size + j)) = some u ∧ ∃ m y, DataW.trod enc P w base (fun _ => true) held m f.type [u] = some y := fun i hin j f hj => by
      obtain ⟨cs', hc, ht'⟩ := hi i (by omega)
      rw [hC] at hc
      obtain ⟨ys, n', hn', hy, hlen, hyl, hff⟩ := DataW.trod_struct he ht'
      obtain ⟨_, hcl, hat⟩ := World.cells?_some hc
      obtain ⟨ho, hk⟩ := hone_of hone j f hj
      have hjl : j < fs.size := (Array.getElem?_eq_some_iff.1 hj).1
      have hcell := hat j hjl
      have hv : cs'[j]? = some (cs'[j]'(by omega)) := List.getElem?_eq_getElem (by omega)
      have h1 := hff j f hj
      rw [ho, hk] at h1
      have hone' : (cs'.drop j).take 1 = [cs'[j]'(by omega)] := by
        rw [List.drop_eq_getElem_cons (by omega)]
        rfl
      rw [hone'] at h1
      have hys : ys[j]? = some (ys[j]'(by omega)) := List.getElem?_eq_getElem (by omega)
      refine ⟨_, ?_, _, _, h1.trans hys⟩
      rw [← Go.Deep.add_add, hcell, hv]
    obtain ⟨f0, hf0⟩ : ∃ f, fs[0]? = some f := ⟨fs[0], Array.getElem?_eq_getElem hpos⟩
    obtain ⟨u0, h0, _⟩ := each 0 hn 0 f0 hf0
    have hs : a.spot = none := by simpa [Addr.add] using World.cell?_spot h0
    obtain ⟨b, o, sp⟩ := a
    simp only at hs
    subst hs
    refine ⟨b, o, rfl, by simpa [Addr.add] using cell_lt h0, fun i hin j f hj => ?_⟩
    obtain ⟨u, h1, h2⟩ := each i hin j f hj
    have e1 : (⟨b, o, none⟩ : Addr).add (i * fs.size + j) = ⟨b, o + (i * fs.size + j), none⟩ := by unfold Addr.add; split <;> simp_all
    rw [e1] at h1
    exact ⟨u, h1, h2⟩
theorem okWide_array {r : Reach} {b0 : Nat} {t : TypeId} {n : Nat} {e : TypeId} {v : Value} (ht : P.underlying t = some (.array n e)) (h : Value.okWide P w r b0 t v) : ∃ cs, v = .agg cs ∧ cs.size = P.cellsOf t := by
  simp only [Value.okWide, ht] at h
  obtain ⟨cs, h1, h2, _⟩ := h
  exact ⟨cs, h1, h2⟩
/-- An array of one-cell elements came in, by value. -/
theorem open_array {r : Reach} {b0 : Nat} {t e : TypeId} {n : Nat} {v : Value} {d : DataW H} {p : List MemPlace} (hs : P.underlying t = some (.array n e)) (hC : P.cellsOf t = n) (hE : P.cellsOf e = 1)
    (hv : Value.okWide P w r b0 t v) (h : DataW.Trod enc P w base spare held t v d p) :
    ∃ l : List Value, v = .agg l.toArray ∧ l.length = n ∧ ∀ (j : Nat) (u : Value), l[j]? = some u → ∃ m y, DataW.trod enc P w base spare held m e [u] = some y := by
  obtain ⟨cs, rfl, hsz⟩ := okWide_array hs hv
  obtain ⟨l⟩ := cs
  have hl : l.length = n := by rw [← hC, ← hsz]; rfl
  refine ⟨l, rfl, hl, fun j u hu => ?_⟩
  obtain ⟨fuel, hf⟩ := h
  obtain ⟨xs, m, _, _, _, hlen, hg⟩ := DataW.trod_array hs hf
  have hjl : j < l.length := (List.getElem?_eq_some_iff.1 hu).1
  have h1 := hg j (by omega)
  have hone' : (l.drop j).take 1 = [u] := by
    rw [List.drop_eq_getElem_cons hjl]
    rw [List.getElem?_eq_getElem hjl] at hu
    simp at hu
    simp [hu]
  have hx : xs[j]? = some (xs[j]'(by omega)) := List.getElem?_eq_getElem (by omega)
  have e2 : (Value.agg l.toArray).cells.toList = l := by simp [Value.cells]
  rw [hE, e2, Nat.mul_one, hone'] at h1
  exact ⟨m, _, h1.trans hx⟩
theorem wf_u32 {z : Int} (h : (Lit.int .u32 z).wf = true) : 0 ≤ z ∧ z ≤ 4294967295 := by
  simp only [Lit.wf, Bool.and_eq_true, decide_eq_true_eq] at h
  have e1 : IntKind.min .u32 = 0 := by decide
  have e2 : IntKind.max .u32 = 4294967295 := by decide
  rw [e1, e2] at h
  exact h
theorem wf_u64 {z : Int} (h : (Lit.int .u64 z).wf = true) : 0 ≤ z ∧ z ≤ 18446744073709551615 := by
  simp only [Lit.wf, Bool.and_eq_true, decide_eq_true_eq] at h
  have e1 : IntKind.min .u64 = 0 := by decide
  have e2 : IntKind.max .u64 = 18446744073709551615 := by decide
  rw [e1, e2] at h
  exact h
end
end Go.Proofs.YtbjealobiblabaaDoor

namespace Go.Proofs.YtbjealobiblabaaDoor
open Go Go.RowKit
theorem lists_of {α : Type} (d : α) {p : Nat → α → Prop} : ∀ (n : Nat), (∀ i, i < n → ∃ x, p i x) → ∃ xs : List α, xs.length = n ∧ ∀ i, i < n → p i (xs.getD i d)
  | 0, _ => ⟨[], rfl, fun i hi => by omega⟩
  | n + 1, h => by
    obtain ⟨xs, hl, hx⟩ := lists_of d n fun i hi => h i (by omega)
    obtain ⟨x, hp⟩ := h n (by omega)
    refine ⟨xs ++ [x], by simp [hl], fun i hi => ?_⟩
    by_cases e : i = n
    · subst e
      have : (xs ++ [x]).getD i d = x := by rw [← hl]; simp
      rw [this]; exact hp
    · have hlt : i < n := by omega
      have : (xs ++ [x]).getD i d = xs.getD i d := by simp [List.getD_eq_getElem?_getD, List.getElem?_append_left (show i < xs.length by omega)]
      rw [this]; exact hx i hlt
/-- What is there of a block that is handed in. -/
structure InB (w : World) (A : Option Addr) (n : Nat) (b : Cont) (i : LI) : Prop where
  at_ : 0 < n → A = some ⟨i.b, i.o, none⟩
  lt : i.b < w.heap.size ∨ (⟨false, false, b⟩ : ABlk).void
  rel : ∀ (ρ : Rho) (nx : Nat), b.rel ρ nx (fun j => w.cell? ⟨i.b, i.o + j, none⟩)
  plain : b.plain = true
theorem InB.ok {w : World} {A : Option Addr} {n : Nat} {b : Cont} {i : LI} (h : InB w A n b i) (ρ : Rho) (nx : Nat) : (⟨false, false, b⟩ : ABlk).ok ρ nx i w :=
  ⟨h.lt, h.rel ρ nx, (fun h => by cases h), (fun h => by cases h), fun q hq => absurd hq (Cont.plain_ne h.plain q)⟩
theorem InB.arg {w : World} {A : Option Addr} {n c l nx : Nat} {b : Cont} {ρ : Rho} (h : InB w A n b (ρ l)) (hl : l < nx) (hnc : n ≤ c) (wd s : Nat) : AV.rel ρ nx (.sl false l wd 0 s n (some c)) (.slice A n c) := by
  simp only [AV.rel]
  refine ⟨hl, A, c, rfl, hnc, fun hn => ?_, (fun h => by cases h), rfl⟩
  rw [h.at_ hn]; simp
/-- Numbers in a slice. -/
theorem in_ints {w : World} {A : Option Addr} {n : Nat} {k : IntKind} {zs : List Int} (h : Reads w w.heap.size 1 A n (zs.map (Value.int k))) : ∃ i, InB w A n (.col (.ints k zs)) i := by
  have hl := h.ints
  by_cases hn : 0 < n
  · obtain ⟨b, o, e, hb, hc⟩ := h.2 hn
    refine ⟨⟨b, o, 0, 0⟩, ⟨fun _ => e, .inl hb, fun ρ nx r c a ha => ?_, rfl⟩⟩
    cases c <;> simp only [Cont.at] at ha <;> try cases ha
    simp only [Col.at, Option.some.injEq, Prod.mk.injEq, decide_eq_true_eq] at ha
    obtain ⟨rfl, hlt⟩ := ha
    exact ⟨by simp [Cont.width], .int k (zs.getD r 0), by simpa [Cont.width] using hc r (.int k (zs.getD r 0)) (by simp [hlt]), by simp [AV.rel]⟩
  · have hz : zs = [] := List.eq_nil_of_length_eq_zero (by omega)
    subst hz
    refine ⟨⟨0, 0, 0, 0⟩, ⟨fun h => absurd h hn, .inr ⟨rfl, rfl, (fun q h => by cases h), fun r c a ha => ?_⟩, fun ρ nx r c a ha => ?_, rfl⟩⟩
    all_goals (cases c <;> simp only [Cont.at, Col.at] at ha <;> simp at ha)
/-- Structs in a slice: column by column. -/
theorem in_rows {w : World} {A : Option Addr} {n : Nat} {cs : List Col} (hv : n = 0 → ∀ (c : Nat) (cl : Col) (r : Nat), cs[c]? = some cl → (cl.at r).2 = false)
    (h : 0 < n → ∃ b o, A = some ⟨b, o, none⟩ ∧ b < w.heap.size ∧ ∀ (c : Nat) (cl : Col) (r : Nat) (v : Value), cs[c]? = some cl → cl.at r = (.val v, true) → w.cell? ⟨b, o + (r * cs.length + c), none⟩ = some v) : ∃ i, InB w A n (.rows cs) i := by
  have hcol : ∀ (cl : Col) r, ∃ v, (cl.at r).1 = .val v := fun cl r => by cases cl <;> exact ⟨_, rfl⟩
  by_cases hn : 0 < n
  · obtain ⟨b, o, e, hb, hc⟩ := h hn
    refine ⟨⟨b, o, 0, 0⟩, ⟨fun _ => e, .inl hb, fun ρ nx r c a ha => ?_, rfl⟩⟩
    simp only [Cont.at] at ha
    split at ha
    · rename_i cl hcl
      simp only [Option.some.injEq] at ha
      obtain ⟨v, hv⟩ := hcol cl r
      rw [ha] at hv
      simp only at hv
      subst hv
      exact ⟨(List.getElem?_eq_some_iff.1 hcl).1, v, hc c cl r v hcl ha, by simp [AV.rel]⟩
    · cases ha
  · have h0 : n = 0 := by omega
    refine ⟨⟨0, 0, 0, 0⟩, ⟨fun h => absurd h hn, .inr ⟨rfl, rfl, (fun q h => by cases h), fun r c a ha => ?_⟩, fun ρ nx r c a ha => ?_, rfl⟩⟩
    all_goals
      simp only [Cont.at] at ha
      split at ha
      · rename_i cl hcl
        simp only [Option.some.injEq] at ha
        have := hv h0 c cl r hcl
        rw [ha] at this
        cases this
      · cases ha
theorem gives_true {g : FuncId} {m m' : MS} {args : List AV} {w : World} {xs : List Value} {ρ : Rho} {fn : Func} {c : Code} (hf : Tryd.prog.funcs[g]? = some fn) (hb : fn.body = some c) (h : Gives_ Tryd.prog fn m.nx (enterA fn c args m) (.val (.bool true)) m') (hro : allRo m.bl = true)
    (hm : MRel ρ m w) (hx : AV.rels ρ m.nx args xs) : Gives g xs.toArray w (.bool true) := law_true hf hb h hro hm hx
end Go.Proofs.YtbjealobiblabaaDoor

namespace Go.Proofs.YtbjealobiblabaaDoor
open Go Go.RowKit
theorem plain_gives {l : List (FuncId × Spec)} {g : FuncId} {fn : Func} {c : Code} {args : List AV} {xs : List Value} {m' : MS} {w : World} {cuts : List Cut} {ns : List Nat} {top : Nat} (hE : ESound Tryd.prog (envOf l)) (hm : MixedOk Tryd.prog) (hf : Tryd.prog.funcs[g]? = some fn) (hb : fn.body = some c)
    (h : F_ Tryd.prog l fn cuts ns top args noMem = some (.ret (vb true) m' true)) (hx : AV.rels (fun _ => ⟨0, 0, 0, 0⟩) 0 args xs) (hC : cutsB 0 cuts = true := by rfl) : Gives g xs.toArray w (.bool true) :=
  gives_true (m := noMem) hf hb (F_ret hE hm hC hb h) rfl mrel_none hx
end Go.Proofs.YtbjealobiblabaaDoor

namespace Go.Proofs.YtbjealobiblabaaDoor
open Go Go.RowKit
theorem lift_p {P : Program} {f : FuncId} {m m1' : MS} {args : List AV} {v : AV} {l wd r c : Nat} {b : ABlk} {ar br : List AV} (hl : look m.bl l = some b) (hg : b.cont.ground = true)
    (h : FSound P f ⟨[(0, some ⟨false, false, b.cont⟩)], 1⟩ (ar ++ .ptr 0 wd r c :: br) v m1') (hx : args = ar ++ .ptr l wd r c :: br) (ha : AV.grounds ar = true) (hb : AV.grounds br = true) (hv : v.ground = true) : FSound P f m args v m := by
  refine lift_pure h rfl hv fun ρ w xs hm hr => ?_
  subst hx
  refine ⟨fun _ => ρ l, hm.views (fun _ => l) (fun k b1 hk => ?_), ?_⟩
  · obtain ⟨rfl, rfl⟩ := look_one hk
    exact ⟨by show (0 : Nat) < 1; omega, rfl, rfl, hg, b, hl, rfl⟩
  · obtain ⟨ys, zs, rfl, h1, h2⟩ := hr.split
    simp only [AV.rels] at h2
    obtain ⟨y, zs', rfl, h2, h3⟩ := h2
    refine AV.rels.append (AV.grounds_rels _ _ ha h1) ?_
    simp only [AV.rels]
    refine ⟨y, zs', rfl, ?_, AV.grounds_rels _ _ hb h3⟩
    simp only [AV.rel] at h2 ⊢
    exact ⟨by show (0 : Nat) < 1; omega, h2.2⟩
theorem mixedP : MixedOk Tryd.prog := by unfold MixedOk; kernel_rfl
abbrev roI (zs : List Int) : Nat × Option ABlk := (0, some ⟨false, false, .col (.ints .i64 zs)⟩)
abbrev wrI (zs : List Int) : Nat × Option ABlk := (0, some ⟨true, false, .col (.ints .i64 zs)⟩)
/-- Row i of a column of cells. -/
def jx (i : Int) : Nat := addN 0 (mulN i.toNat 1) + 0
theorem jx_nat (i : Nat) : jx (i : Int) = i := by unfold jx; rw [addN_eq, mulN_eq, Int.toNat_natCast]; omega
theorem wr64 (x : Int) (h : -9223372036854775808 ≤ x) (h' : x ≤ 9223372036854775807) : IntKind.i64.wrap x = x := IntWalk.i64_in x ⟨h, h'⟩
abbrev up1 (n : Int) : Int := IntKind.i64.wrap (n + 1)
theorem up1_nat {i : Nat} (h : i ≤ 4294967296) : up1 (i : Int) = ((i + 1 : Nat) : Int) := by unfold up1; rw [wr64 _ (by omega) (by omega)]; omega
theorem cj_app : ∀ (a b : List Bool), conj a = true → conj b = true → conj (a ++ b) = true
  | [], b, _, h => h
  | x :: a, b, h, h' => by
    cases x
    · cases h
    · exact cj_app a b h h'
theorem cj_all {l : List Bool} (h : ∀ b ∈ l, b = true) : conj l = true := by
  induction l with
  | nil => rfl
  | cons b l ih =>
    rw [h b (by simp)]
    exact ih fun x hx => h x (by simp [hx])
theorem roB_get {bl : List (Nat × Option ABlk)} {l : Nat} {b : ABlk} (h : look bl l = some b) : look (roB bl) l = some ⟨false, false, b.cont⟩ := by
  induction bl with
  | nil => cases h
  | cons p r ih =>
    obtain ⟨k, o⟩ := p
    rw [look_cons] at h
    cases o with
    | none =>
      simp only [roB, look_cons]
      split at h
      · cases h
      · rename_i e; rw [if_neg e]; exact ih h
    | some x =>
      simp only [roB, look_cons]
      split at h
      · rename_i e; cases h; rw [if_pos e]
      · rename_i e; rw [if_neg e]; exact ih h
end Go.Proofs.YtbjealobiblabaaDoor

namespace Go.Proofs.YtbjealobiblabaaDoor
open Go Go.RowKit
set_option maxRecDepth 100000
def cmpI (x y : Int) : Int := bif decide (x < y) then -1 else bif decide (y < x) then 1 else 0
def orI (x y : Int) : Int := bif x == 0 then y else x
def e_cmp : Spec := fun _ args => match args with
  | [.val (.int .i64 x), .val (.int .i64 y)] => some (vi (cmpI x y), none, [])
  | _ => none
def e_or : Spec := fun m args => match args with
  | [.sl _ l 1 0 1 2 _] => match look m.bl l with
    | some ⟨_, _, .cells [.val (.int .i64 x), .val (.int .i64 y)]⟩ => some (vi (orI x y), none, [])
    | _ => none
  | [.sl _ l 1 0 1 3 _] => match look m.bl l with
    | some ⟨_, _, .cells [.val (.int .i64 x), .val (.int .i64 y), .val (.int .i64 z)]⟩ => some (vi (orI x (orI y z)), none, [])
    | _ => none
  | _ => none
abbrev L_nan (P : Program) (f : Func) : List (FuncId × Spec) := [(74, inlP P [] f)]
theorem hE_nan : ESound Tryd.prog (envOf (L_nan Tryd.prog Tryd.f74)) := env_cons (inlP_ok env_nil mixedP (fun xs w => Tryd.call74 xs w) Tryd.func74 rfl) env_nil
theorem cmp_run (x y : Int) : F_ Tryd.prog (L_nan Tryd.prog Tryd.f74) Tryd.f59 [] [] 99 [vi x, vi y] noMem = some (.ret (vi (cmpI x y)) ⟨[], 99⟩ true) := by
  have e : F_ Tryd.prog (L_nan Tryd.prog Tryd.f74) Tryd.f59 [] [] 99 [vi x, vi y] noMem =
      bif x != x then (bif y != y then some (.ret (vi 0) ⟨[], 99⟩ true) else some (.ret (vi (-1)) ⟨[], 99⟩ true)) else bif y != y then some (.ret (vi 1) ⟨[], 99⟩ true) else bif decide (x < y) then some (.ret (vi (-1)) ⟨[], 99⟩ true) else bif decide (y < x) then some (.ret (vi 1) ⟨[], 99⟩ true) else some (.ret (vi 0) ⟨[], 99⟩ true) := by kernel_rfl
  rw [e, bne_self_eq_false, bne_self_eq_false]
  unfold cmpI
  cases decide (x < y) <;> cases decide (y < x) <;> rfl
theorem ok_cmp : SpecOk Tryd.prog 59 e_cmp := fun m args v mo bs h hb => by
  unfold e_cmp at h
  split at h <;> cases h
  exact pure_fn (c := bodyOf Tryd.f59) hE_nan mixedP (fun xs w => Tryd.call59 xs w) Tryd.func59 rfl (cmp_run _ _) rfl rfl
theorem or2_run (x y : Int) : F_ Tryd.prog [] Tryd.f58 [] [] 99 [.sl false 0 1 0 1 2 none] ⟨[(0, some ⟨false, false, .cells [vi x, vi y]⟩)], 1⟩ = some (.ret (vi (orI x y)) ⟨[], 99⟩ true) := by
  have e : F_ Tryd.prog [] Tryd.f58 [] [] 99 [.sl false 0 1 0 1 2 none] ⟨[(0, some ⟨false, false, .cells [vi x, vi y]⟩)], 1⟩ =
    bif x != 0 then some (.ret (vi x) ⟨[], 99⟩ true) else bif y != 0 then some (.ret (vi y) ⟨[], 99⟩ true) else some (.ret (vi 0) ⟨[], 99⟩ true) := by kernel_rfl
  rw [e]
  unfold orI bne
  cases hx : x == 0 <;> cases hy : y == 0 <;> simp_all
theorem or3_run (x y z : Int) : F_ Tryd.prog [] Tryd.f58 [] [] 99 [.sl false 0 1 0 1 3 none] ⟨[(0, some ⟨false, false, .cells [vi x, vi y, vi z]⟩)], 1⟩ = some (.ret (vi (orI x (orI y z))) ⟨[], 99⟩ true) := by
  have e : F_ Tryd.prog [] Tryd.f58 [] [] 99 [.sl false 0 1 0 1 3 none] ⟨[(0, some ⟨false, false, .cells [vi x, vi y, vi z]⟩)], 1⟩ =
    bif x != 0 then some (.ret (vi x) ⟨[], 99⟩ true) else bif y != 0 then some (.ret (vi y) ⟨[], 99⟩ true) else bif z != 0 then some (.ret (vi z) ⟨[], 99⟩ true) else some (.ret (vi 0) ⟨[], 99⟩ true) := by kernel_rfl
  rw [e]
  unfold orI bne
  cases hx : x == 0 <;> cases hy : y == 0 <;> cases hz : z == 0 <;> simp_all
/-- A slice of one block that is read, whatever its room. -/
theorem lift_s {P : Program} {f : FuncId} {m m1' : MS} {v : AV} {l wd s n : Nat} {nn : Bool} {cap : Option Nat} {b : ABlk} (hl : look m.bl l = some b) (hg : b.cont.ground = true) (hpl : b.cont.plain = true)
    (h : FSound P f ⟨[(0, some ⟨false, false, b.cont⟩)], 1⟩ [.sl false 0 wd 0 s n none] v m1') (hv : v.ground = true) : FSound P f m [.sl nn l wd 0 s n cap] v m := by
  refine lift_pure h rfl hv fun ρ w xs hm hx => ?_
  simp only [AV.rels] at hx
  obtain ⟨z, zs, rfl, hz, rfl⟩ := hx
  simp only [AV.rel] at hz
  obtain ⟨hll, A, cc, rfl, hnc, hA, _, _⟩ := hz
  have hv := hm.view hl hg (fun _ => ⟨(ρ l).b, (ρ l).o, cc * (s * wd), 0⟩) 1
  refine ⟨fun _ => ⟨(ρ l).b, (ρ l).o, cc * (s * wd), 0⟩, mrel_one ⟨hv.lt, hv.rel, (fun h => by cases h), (fun h => by cases h), fun q h => absurd h (Cont.plain_ne hpl q)⟩, ?_⟩
  simp only [AV.rels]
  refine ⟨_, _, rfl, ?_, rfl⟩
  simp only [AV.rel]
  exact ⟨by omega, A, cc, rfl, hnc, hA, (fun h => by cases h), by simp⟩
theorem ok_or : SpecOk Tryd.prog 58 e_or := fun m args v mo bs h hb => by
  unfold e_or at h
  split at h
  · split at h <;> cases h
    rename_i hl
    exact lift_s hl rfl rfl (fsound (c := bodyOf Tryd.f58) (fun xs w => Tryd.call58 xs w) Tryd.func58 rfl (F_ret env_nil mixedP rfl rfl (or2_run _ _))) rfl
  · split at h <;> cases h
    rename_i hl
    exact lift_s hl rfl rfl (fsound (c := bodyOf Tryd.f58) (fun xs w => Tryd.call58 xs w) Tryd.func58 rfl (F_ret env_nil mixedP rfl rfl (or3_run _ _ _))) rfl
  · cases h
abbrev L_co : List (FuncId × Spec) := [(59, e_cmp), (58, e_or)]
theorem hE_co : ESound Tryd.prog (envOf L_co) := env_cons ok_cmp (env_cons ok_or env_nil)
end Go.Proofs.YtbjealobiblabaaDoor

namespace Go.Proofs.YtbjealobiblabaaDoor
open Go Go.RowKit
section
variable {P : Program} {ρ : Rho} {m : MS} {w w' : World}
/-- All blocks but one of the call's own stay; new ones may come: that one is no more seen. -/
theorem MRel.gone2 {l : Nat} {b : ABlk} (h : MRel ρ m w) (hl : look m.bl l = some b) (hw : b.wr = true) (hsz : w.heap.size ≤ w'.heap.size)
    (hoth : ∀ g, g < w.heap.size → g ≠ (ρ l).b → w'.heap[g]? = w.heap[g]?) : MRel ρ ⟨upd m.bl l none, m.nx⟩ w' := by
  refine ⟨fun l' b' hl' => ?_, fun l1 b1 l2 b2 h1 h2 hw1 hne hnv => ?_, fun l1 b1 l2 b2 h1 h2 => h.deep l1 b1 l2 b2 (upd_sub _ _ h1) (upd_sub _ _ h2)⟩
  · have hl2 := upd_sub _ _ hl'
    obtain ⟨h1, h2⟩ := h.blk l' b' hl2
    refine ⟨h1, ?_⟩
    have hne : l' ≠ l := fun e => by
      subst e
      rw [look_upd, if_pos rfl] at hl'
      cases hl'
    by_cases hv : b'.void
    · exact ABlk.ok.any hv _
    · exact h2.ext (fun _ _ => rfl) (Nat.le_refl _) hsz (hoth _ (h2.lt.resolve_right hv) (h.apart l b l' b' hl hl2 hw hne hv)) fun hn' g hg => hoth g (h2.tlt hn' g hg) (fun e' => by rw [e', h.deep l b l' b' hl hl2 hw hn'] at hg; cases hg)
  · exact h.apart l1 b1 l2 b2 (upd_sub _ _ h1) (upd_sub _ _ h2) hw1 hne hnv
/-- That one, with what it holds now. -/
theorem MRel.redo {l : Nat} {b b' : ABlk} (h : MRel ρ m w) (hl : look m.bl l = some b) (hw : b.wr = true) (hnn : b'.cont.nested = false) (hsz : w.heap.size ≤ w'.heap.size) (hos : w'.os = w.os) (htp : w'.tape = w.tape) (hout : OutLe w w')
    (hoth : ∀ g, g < w.heap.size → g ≠ (ρ l).b → w'.heap[g]? = w.heap[g]?) (hok : b'.ok ρ m.nx (ρ l) w') :
    MRel ρ ⟨upd m.bl l (some b'), m.nx⟩ w' ∧ Moves m.nx ρ ρ m ⟨upd m.bl l (some b'), m.nx⟩ w w' := by
  have key : ∀ j x, look (upd m.bl l (some b')) j = some x → (j = l ∧ x = b') ∨ (j ≠ l ∧ look m.bl j = some x) := fun j x hj => by
    rw [look_upd] at hj
    split at hj
    · rename_i e; cases hj; exact .inl ⟨e.symm, rfl⟩
    · rename_i e; exact .inr ⟨Ne.symm e, hj⟩
  refine ⟨⟨fun j x hj => ?_, fun j x j' x' h1 h2 hw1 hne hnv => ?_, fun j x j' x' h1 h2 hw1 hn2 => ?_⟩, ⟨fun _ _ => rfl, Nat.le_refl _, hos, htp, hout, hsz, fun g hg hn => hoth g hg fun e => hn ⟨l, b, hl, hw, e.symm⟩, fun g ⟨j, x, h1, h2, h3⟩ => .inl ?_⟩⟩
  · rcases key j x hj with ⟨rfl, rfl⟩ | ⟨hne, hj⟩
    · exact ⟨(h.blk j b hl).1, hok⟩
    · obtain ⟨h1, h2⟩ := h.blk j x hj
      refine ⟨h1, ?_⟩
      by_cases hv : x.void
      · exact ABlk.ok.any hv _
      · exact h2.ext (fun _ _ => rfl) (Nat.le_refl _) hsz (hoth _ (h2.lt.resolve_right hv) (h.apart l b j x hl hj hw hne hv)) fun hn' g hg => hoth g (h2.tlt hn' g hg) (fun e' => by rw [e', h.deep l b j x hl hj hw hn'] at hg; cases hg)
  · rcases key j x h1 with ⟨rfl, rfl⟩ | ⟨hjl, hj⟩
    · rcases key j' x' h2 with ⟨rfl, _⟩ | ⟨hjl', hj'⟩
      · exact absurd rfl hne
      · exact h.apart j b j' x' hl hj' hw hne hnv
    · rcases key j' x' h2 with ⟨rfl, rfl⟩ | ⟨hjl', hj'⟩
      · exact h.apart j x j' b hj hl hw1 hne (wr_not_void hw)
      · exact h.apart j x j' x' hj hj' hw1 hne hnv
  · rcases key j' x' h2 with ⟨rfl, rfl⟩ | ⟨hjl', hj'⟩
    · rw [hnn] at hn2; cases hn2
    · rcases key j x h1 with ⟨rfl, rfl⟩ | ⟨hjl, hj⟩
      · exact h.deep j b j' x' hl hj' hw hn2
      · exact h.deep j x j' x' hj hj' hw1 hn2
  · rcases key j x h1 with ⟨rfl, rfl⟩ | ⟨hjl, hj⟩
    · exact ⟨j, b, hl, hw, h3⟩
    · exact ⟨j, x, hj, h2, h3⟩
/-- A world that has grown is the old one, grown. -/
theorem grown_of (ho : w'.os = w.os) (ht : w'.tape = w.tape) (hout : OutLe w w') (hs : w.heap.size ≤ w'.heap.size) (hk : ∀ g, g < w.heap.size → w'.heap[g]? = w.heap[g]?) : ∃ (q : Nat) (os' : Array Obj), w' = Go.Sort.grow (w.drewN q) os' := by
  refine ⟨w'.drawn - w.drawn, w'.heap.extract w.heap.size w'.heap.size, ?_⟩
  obtain ⟨hout, hd⟩ := hout
  obtain ⟨heap', tape', drawn', os', output'⟩ := w'
  obtain ⟨heap, tape, drawn, os, output⟩ := w
  simp only at ho ht hout hs hk hd
  subst ho ht hout
  have e1 : heap' = heap ++ heap'.extract heap.size heap'.size := by
    apply Array.ext_getElem?
    intro k
    rw [Array.getElem?_append]
    by_cases h : k < heap.size
    · rw [if_pos h]; exact hk k h
    · rw [if_neg h, Array.getElem?_extract, Nat.add_sub_cancel' (by omega)]
      by_cases h2 : k < heap'.size
      · rw [if_pos (by omega)]
      · rw [if_neg (by omega)]; exact Array.getElem?_eq_none (by omega)
  have e2 : drawn' = drawn + (drawn' - drawn) := by omega
  show (⟨heap', tape', drawn', os', output'⟩ : World) = ⟨heap ++ heap'.extract heap.size heap'.size, tape', drawn + (drawn' - drawn), os', output'⟩
  rw [← e1, ← e2]
theorem sortWorld_other {β : Type} [Inhabited β] {enc : β → Value} {blk off n : Nat} {F : Array β} {os : Array Obj} (g : Nat) (hg : g < w.heap.size) (hne : g ≠ blk) : (sortWorld enc w blk off n F os).heap[g]? = w.heap[g]? := by
  unfold sortWorld
  rw [Go.Sort.heap_grow_old _ _ (by rw [Go.Sort.size_putRow]; exact hg)]
  unfold Go.Sort.putRow Go.Sort.mapBlock
  simp only [Array.getElem?_modify]
  rw [if_neg (Ne.symm hne)]
  rfl
theorem sortWorld_size {β : Type} [Inhabited β] {enc : β → Value} {blk off n : Nat} {F : Array β} {os : Array Obj} : w.heap.size ≤ (sortWorld enc w blk off n F os).heap.size := by
  unfold sortWorld
  rw [Go.Sort.size_grow, Go.Sort.size_putRow]
  exact Nat.le_add_right _ _
theorem sortWorld_out {β : Type} [Inhabited β] {enc : β → Value} {blk off n : Nat} {F : Array β} {os : Array Obj} : OutLe w (sortWorld enc w blk off n F os) := ⟨rfl, Nat.le_add_right _ _⟩
/-- The comparison's calls, in whatever world of the sort's. -/
theorem cmp_calls {β : Type} [Inhabited β] {ax ay : AV} {g : FuncId} {cs : List AV} {ys : List Value} {l : Nat} {b : ABlk} {vx vy : Value} {z : Int} {enc : β → Value} {n off : Nat} {F : Array β} {os : Array Obj} (h : MRel ρ m w) (hl : look m.bl l = some b) (hw : b.wr = true) (hcs : AV.rels ρ m.nx cs ys)
    (eg : ∀ args w, (callFunc g args).run P w = .ok (.enter g args) w) (hx : AV.rel ρ m.nx ax vx) (hy : AV.rel ρ m.nx ay vy) (hf : ∃ m', FSound P g ⟨roB (upd m.bl l none), m.nx⟩ (ax :: ay :: cs) (vi z) m') :
    Calls P g (#[vx, vy] ++ ys.toArray) (sortWorld enc w (ρ l).b off n F os) fun e w' => e = .returned (.int .i64 z) ∧ ∃ q os', w' = Go.Sort.grow ((sortWorld enc w (ρ l).b off n F os).drewN q) os' := by
  have h1 := h.gone2 hl hw (sortWorld_size (enc := enc) (off := off) (n := n) (F := F) (os := os)) fun g hg hne => sortWorld_other g hg hne
  obtain ⟨m', hf⟩ := hf
  have ea : #[vx, vy] ++ ys.toArray = (vx :: vy :: ys).toArray := by simp
  rw [ea]
  rcases hf ρ _ (vx :: vy :: ys) (still_mrel h1) (by simp only [AV.rels]; exact ⟨vx, _, rfl, hx, vy, _, rfl, hy, hcs⟩) with ⟨j, hj, hc⟩ | ⟨x, w', hj, _⟩
  · rw [eg] at hj
    cases hj
    refine Calls.mono hc fun e w' ⟨x, he, ρ', hr, _, mv⟩ => ?_
    simp only [AV.rel] at hr
    subst hr
    exact ⟨he, grown_of mv.os mv.tape mv.output mv.size fun g hg => mv.keep g hg (roB_noWr g)⟩
  · rw [eg] at hj
    cases hj
/-- What the sort leaves. -/
theorem sort_end {β : Type} [Inhabited β] {enc : β → Value} {l : Nat} {b : ABlk} {k' : Cont} {n : Nat} {F0 F : Array β} {os : Array Obj} (h : MRel ρ m w) (hl : look m.bl l = some b) (hw : b.wr = true) (hlt : (ρ l).b < w.heap.size) (hH : Go.Sort.Holds enc w (ρ l).b (ρ l).o F0) (hs : F.size = F0.size) (hpl : k'.plain = true)
    (hat : ∀ r c a, k'.at r c = some (a, true) → c < k'.width ∧ r * k'.width + c < F.size ∧ AV.rel ρ m.nx a (enc F[r * k'.width + c]!)) :
    MRel ρ ⟨upd m.bl l (some ⟨true, false, k'⟩), m.nx⟩ (sortWorld enc w (ρ l).b (ρ l).o n F os) ∧ Moves m.nx ρ ρ m ⟨upd m.bl l (some ⟨true, false, k'⟩), m.nx⟩ w (sortWorld enc w (ρ l).b (ρ l).o n F os) := by
  have hH' : Go.Sort.Holds enc (Go.Sort.ahead w n) (ρ l).b (ρ l).o F0 := hH
  have hbl := (h.blk l b hl).2
  refine h.redo hl hw (Cont.nested_plain hpl) sortWorld_size rfl rfl sortWorld_out (fun g hg hne => sortWorld_other g hg hne) ⟨.inl (Nat.lt_of_lt_of_le hlt sortWorld_size), fun r c a ha => ?_, fun _ j => ?_, (fun ho => by cases ho), fun q hq => absurd hq (Cont.plain_ne hpl q)⟩
  · obtain ⟨h1, h2, h3⟩ := hat r c a ha
    refine ⟨h1, _, ?_, h3⟩
    show (sortWorld enc w (ρ l).b (ρ l).o n F os).cell? ⟨(ρ l).b, (ρ l).o + (r * k'.width + c), none⟩ = _
    unfold sortWorld
    rw [Go.Sort.cell?_grow _ _ _ (by rw [Go.Sort.size_putRow]; exact hlt)]
    exact Go.Sort.cell?_putRow enc _ _ _ F0 F hH' hs _ h2
  · unfold sortWorld
    rw [Go.Sort.frozen?_grow _ _ _ (by rw [Go.Sort.size_putRow]; exact hlt), Go.Sort.frozen?_putRow]
    exact hbl.free hw j
/-- At ints: sorted by an order in which no two are alike. -/
theorem sort_ints {ren : Go.Shelf.Ren} (L : SlLaysF.n6 P ren) (L0 : SlLaysF0.n6 P ren) {α : Type} [Inhabited α] (enc : α → Int) (cf : α → α → Int) (hO : Go.Sort.SWO (ltOf cf)) (hT : ∀ x y, (ltOf cf) x y = false → (ltOf cf) y x = false → x = y) {f g : FuncId} {cs : List AV} {l : Nat} {op nn : Bool} {cap : Option Nat} (d : List α) (hd : d.length < 4611686018427387904)
    (hl : look m.bl l = some ⟨true, op, .col (.ints .i64 (d.map enc))⟩) (ef : ∀ args w, (callFunc f args).run P w = .ok (.enter (ren.f 6) args) w) (eg : ∀ args w, (callFunc g args).run P w = .ok (.enter g args) w)
    (hf : ∀ x y : α, ∃ m', FSound P g ⟨roB (upd m.bl l none), m.nx⟩ (vi (enc x) :: vi (enc y) :: cs) (vi (cf x y)) m') :
    FSound P f m [.sl nn l 1 0 1 d.length cap, .clo g [] cs] (.tup []) ⟨upd m.bl l (some ⟨true, false, .col (.ints .i64 ((d.mergeSort fun x y => !(ltOf cf) y x).map enc))⟩), m.nx⟩ := by
  intro ρ w xs hm hx
  simp only [AV.rels] at hx
  obtain ⟨y, ys, rfl, hy, z, zs, rfl, hz, rfl⟩ := hx
  simp only [AV.rel] at hy hz
  obtain ⟨hlt, A, c, rfl, hnc, hA, _, _⟩ := hy
  obtain ⟨fs, cb, rfl, hfs, hcb⟩ := hz
  simp only [AV.rels] at hfs
  subst hfs
  obtain ⟨_, hok⟩ := hm.blk l _ hl
  have hbl : (ρ l).b < w.heap.size := hok.lt.resolve_right (wr_not_void rfl)
  refine .inl ⟨ren.f 6, ef _ _, ?_⟩
  by_cases h0 : d.length = 0
  · have hd0 : d = [] := List.length_eq_zero_iff.1 h0
    subst hd0
    refine Calls.mono (AnyF.slices_SortFunc_none L0 A c _ w) fun e w' ⟨he, hw'⟩ => ?_
    subst hw'
    refine ⟨_, he, ρ, by simp only [AV.rel, AV.rels]; exact ⟨[], rfl, rfl⟩, ?_⟩
    refine hm.redo hl rfl rfl (Nat.le_refl _) rfl rfl ⟨rfl, Nat.le_refl _⟩ (fun _ _ _ => rfl) ⟨.inl hbl, fun r c a ha => ?_, hok.free, (fun ho => by cases ho), fun q hq => by cases hq⟩
    match c, ha with
    | 0, ha => simp [Cont.at, Col.at] at ha
    | c + 1, ha => cases ha
  · rw [hA (by omega)]
    have hH : Go.Sort.Holds (fun a => Value.int .i64 (enc a)) w (ρ l).b (ρ l).o d.toArray := fun j hj => by
      have hj : j < d.length := by simpa using hj
      obtain ⟨_, x, h1, h2⟩ := hok.rel j 0 (.val (.int .i64 ((d.map enc).getD j 0))) (by simp [Cont.at, Col.at, hj])
      simp only [AV.rel] at h2
      subst h2
      refine ⟨?_, hok.free rfl _⟩
      simp only [Cont.width, Nat.mul_one, Nat.add_zero] at h1
      rw [h1, getElem!_pos d.toArray j (by simpa using hj)]
      simp [List.getD_eq_getElem?_getD, hj]
    have hc := Any.slices_SortFunc_total L (fun a => Value.int .i64 (enc a)) (fun _ => rfl) cf hO g cb.toArray (ρ l).b (ρ l).o c d.toArray w eg
      (fun mm os dk hs x y => cmp_calls hm hl rfl hcb eg (ax := vi (enc x)) (ay := vi (enc y)) (by simp [AV.rel]) (by simp [AV.rel]) (hf x y)) hH hbl (by simpa using hd) hT
    simp only [List.size_toArray, Nat.zero_mul, Nat.add_zero] at hc ⊢
    refine Calls.mono hc fun e w' ⟨he, n, os, hw'⟩ => ?_
    subst hw'
    refine ⟨_, he, ρ, by simp only [AV.rel, AV.rels]; exact ⟨[], rfl, rfl⟩, ?_⟩
    refine sort_end hm hl rfl hbl hH (by simp) rfl fun r c a ha => ?_
    match c, ha with
    | 0, ha =>
      simp only [Cont.at, Col.at, Option.some.injEq, Prod.mk.injEq, decide_eq_true_eq, List.length_map] at ha
      obtain ⟨rfl, hr⟩ := ha
      refine ⟨by show (0 : Nat) < 1; omega, by simpa [Cont.width] using hr, ?_⟩
      simp only [AV.rel, Cont.width, Nat.mul_one, Nat.add_zero]
      rw [getElem!_pos _ r (by simpa using hr), List.getD_eq_getElem?_getD, List.getElem?_eq_getElem (by rw [List.length_map]; exact hr), Option.getD_some, List.getElem_map]
      rfl
    | c + 1, ha => cases ha
end
end Go.Proofs.YtbjealobiblabaaDoor

namespace Go.Proofs.YtbjealobiblabaaDoor
open Go Go.RowKit
/-- Fields of things as columns, as values. -/
def colsF {α : Type} (fs : List (α → Int)) (d : List α) : List Col := fs.map fun f => .ints .i64 (d.map f)
def encF {α : Type} (fs : List (α → Int)) (x : α) : List Value := fs.map fun f => .int .i64 (f x)
def encA {α : Type} (fs : List (α → Int)) (x : α) : List AV := fs.map fun f => .val (.int .i64 (f x))
section
variable {P : Program} {ρ : Rho} {m : MS} {w w' : World}
theorem encF_rel {α : Type} {nx : Nat} (fs : List (α → Int)) (x : α) : AV.rel ρ nx (.agg (encA fs x)) (.agg (encF fs x).toArray) := by
  simp only [AV.rel]
  refine ⟨_, rfl, ?_⟩
  unfold encA encF
  induction fs with
  | nil => simp [AV.rels]
  | cons f fs ih => simp only [List.map_cons, AV.rels, AV.rel]; exact ⟨_, _, rfl, rfl, ih⟩
theorem flat_at {α : Type} [Inhabited α] {enc : α → List Value} {k : Nat} {d : Array α} {r c : Nat} (hr : r < d.size) (hc : c < k) : r * k + c < (Go.Sort.flatK enc k d).size ∧ (Go.Sort.flatK enc k d)[r * k + c]! = (enc d[r]!)[c]! := by
  have lt : r * k + c < d.size * k := by
    have := Nat.mul_le_mul_right k (show r + 1 ≤ d.size from hr)
    rw [Nat.add_mul, Nat.one_mul] at this
    omega
  refine ⟨by rw [Go.Sort.size_flatK]; exact lt, ?_⟩
  rw [Go.Sort.get_flatK _ _ _ _ lt, Nat.mul_comm, Nat.mul_add_div (by omega), Nat.div_eq_of_lt hc, Nat.add_zero, Nat.mul_add_mod, Nat.mod_eq_of_lt hc]
/-- At structs: sorted by an order in which no two are alike. -/
theorem sort_rows {ren : Go.Shelf.Ren} (L0 : SlLaysF0.n6 P ren) {α : Type} [Inhabited α] (fs : List (α → Int)) (aE : ∀ w, (isAgg (ren.t 24)).run P w = .ok true w) (zE : ∀ w, (Go.sizeOf (ren.t 24)).run P w = .ok fs.length w) (cf : α → α → Int) (hO : Go.Sort.SWO (ltOf cf)) (hT : ∀ x y, (ltOf cf) x y = false → (ltOf cf) y x = false → x = y) {f g : FuncId} {cs : List AV} {l : Nat} {op nn : Bool} {cap : Option Nat} (d : List α) (hd : d.length < 4611686018427387904) (hp : 0 < d.length)
    (hl : look m.bl l = some ⟨true, op, .rows (colsF fs d)⟩) (ef : ∀ args w, (callFunc f args).run P w = .ok (.enter (ren.f 6) args) w) (eg : ∀ args w, (callFunc g args).run P w = .ok (.enter g args) w)
    (hf : ∀ x y : α, ∃ m', FSound P g ⟨roB (upd m.bl l none), m.nx⟩ (.agg (encA fs x) :: .agg (encA fs y) :: cs) (vi (cf x y)) m') :
    FSound P f m [.sl nn l fs.length 0 1 d.length cap, .clo g [] cs] (.tup []) ⟨upd m.bl l (some ⟨true, false, .rows (colsF fs (d.mergeSort fun x y => !(ltOf cf) y x))⟩), m.nx⟩ := by
  intro ρ w xs hm hx
  simp only [AV.rels] at hx
  obtain ⟨y, ys, rfl, hy, z, zs, rfl, hz, rfl⟩ := hx
  simp only [AV.rel] at hy hz
  obtain ⟨hlt, A, c, rfl, hnc, hA, _, _⟩ := hy
  obtain ⟨gs, cb, rfl, hgs, hcb⟩ := hz
  simp only [AV.rels] at hgs
  subst hgs
  obtain ⟨_, hok⟩ := hm.blk l _ hl
  have hbl : (ρ l).b < w.heap.size := hok.lt.resolve_right (wr_not_void rfl)
  refine .inl ⟨ren.f 6, ef _ _, ?_⟩
  rw [hA hp]
  have hwid : (Cont.rows (colsF fs d)).width = fs.length := by simp [Cont.width, colsF]
  have hH : Go.Sort.HoldsK (encF fs) fs.length w (ρ l).b (ρ l).o d.toArray := fun j hj => by
    have hj' : j < d.length * fs.length := by simpa using hj
    have hpos : 0 < fs.length := by
      rcases Nat.eq_zero_or_pos fs.length with h | h
      · rw [h] at hj'; simp at hj'
      · exact h
    have hr : j / fs.length < d.length := Nat.div_lt_of_lt_mul (by rw [Nat.mul_comm]; exact hj')
    have hc : j % fs.length < fs.length := Nat.mod_lt _ hpos
    obtain ⟨_, x, h1, h2⟩ := hok.rel (j / fs.length) (j % fs.length) (.val (.int .i64 ((d.map (fs[j % fs.length])).getD (j / fs.length) 0))) (by
      simp only [Cont.at, colsF, List.getElem?_map, List.getElem?_eq_getElem hc, Option.map_some, Col.at, List.length_map, decide_eq_true hr])
    simp only [AV.rel] at h2
    subst h2
    rw [hwid, Nat.div_add_mod'] at h1
    have h1 : w.cell? ⟨(ρ l).b, (ρ l).o + j, none⟩ = _ := h1
    refine ⟨?_, hok.free rfl _⟩
    rw [h1, Go.Sort.get_flatK _ _ _ _ (by simpa using hj)]
    rw [getElem!_pos d.toArray _ (by simpa using hr)]
    simp [encF, List.getD_eq_getElem?_getD, hr, hc]
  have hc := AnyQ.slices_SortFunc_total L0 fs.length aE zE (encF fs) (fun x => by simp [encF]) (fun x v hv => by
      simp only [encF, List.mem_map] at hv
      obtain ⟨_, _, rfl⟩ := hv
      rfl) cf hO g cb.toArray (ρ l).b (ρ l).o c d.toArray w eg
    (fun mm os dk hs x y => cmp_calls (enc := id) (n := mm) (off := (ρ l).o) (F := Go.Sort.flatK (encF fs) fs.length dk) (os := os) hm hl rfl hcb eg (encF_rel fs x) (encF_rel fs y) (hf x y)) hH hbl (by simpa using hd) hT
  simp only [List.size_toArray, Nat.zero_mul, Nat.add_zero] at hc ⊢
  refine Calls.mono hc fun e w' ⟨he, n, os, hw'⟩ => ?_
  subst hw'
  refine ⟨_, he, ρ, by simp only [AV.rel, AV.rels]; exact ⟨[], rfl, rfl⟩, ?_⟩
  have hlen : (d.mergeSort fun x y => !(ltOf cf) y x).length = d.length := by simp
  refine sort_end (enc := id) (F0 := Go.Sort.flatK (encF fs) fs.length d.toArray) (F := Go.Sort.flatK (encF fs) fs.length (d.mergeSort fun x y => !(ltOf cf) y x).toArray) hm hl rfl hbl hH (by simp) rfl fun r c a ha => ?_
  generalize (d.mergeSort fun x y => !(ltOf cf) y x) = d' at ha hlen ⊢
  simp only [Cont.at, colsF, List.getElem?_map] at ha
  cases hfc : fs[c]? with
  | none => rw [hfc] at ha; cases ha
  | some f =>
    rw [hfc] at ha
    simp only [Option.map_some, Col.at, Option.some.injEq, Prod.mk.injEq, decide_eq_true_eq, List.length_map] at ha
    obtain ⟨rfl, hr⟩ := ha
    have hcl : c < fs.length := (List.getElem?_eq_some_iff.1 hfc).1
    have hw2 : (Cont.rows (colsF fs d')).width = fs.length := by simp [Cont.width, colsF]
    rw [hw2]
    obtain ⟨g1, g2⟩ := flat_at (enc := encF fs) (k := fs.length) (d := d'.toArray) (r := r) (c := c) (by simpa using hr) hcl
    refine ⟨hcl, g1, ?_⟩
    simp only [AV.rel, id]
    rw [g2, getElem!_pos d'.toArray _ (by simpa using hr)]
    have : (encF fs d'.toArray[r])[c]! = .int .i64 (f d'[r]) := by
      simp only [encF, List.getElem_toArray]
      rw [getElem!_pos _ c (by simpa using hcl), List.getElem_map]
      have := (List.getElem?_eq_some_iff.1 hfc).2
      rw [this]
    rw [this, List.getD_eq_getElem?_getD, List.getElem?_map, List.getElem?_eq_getElem hr]
    rfl
end
end Go.Proofs.YtbjealobiblabaaDoor

namespace Go.Proofs.YtbjealobiblabaaDoor
open Go Go.Shelf
def Tryd.layQ6_ren : Ren :=
{
  f := fun x =>
    match x with
    | 6 => 56
    | 15 => 73
    | 14 => 72
    | 28 => 88
    | 29 => 89
    | 20 => 80
    | 21 => 81
    | 22 => 82
    | 23 => 83
    | 24 => 84
    | 25 => 85
    | 26 => 86
    | 27 => 87
    | 46 => 93
    | 47 => 94
    | 48 => 95
    | 49 => 96
    | 50 => 97
    | 57 => 103
    | n => n,
  t := fun x =>
    match x with
    | 22 => 88
    | 24 => 91
    | 25 => 109
    | 3 => 3
    | 39 => 95
    | 0 => 0
    | 53 => 117
    | 55 => 105
    | 4 => 4
    | 46 => 135
    | 45 => 134
    | 50 => 139
    | 5 => 5
    | 9 => 9
    | 66 => 144
    | 70 => 148
    | 76 => 153
    | 77 => 154
    | n => n,
  g := fun x => x }
theorem Tryd.layQ6 : SlLaysF0.n6 Tryd.prog Tryd.layQ6_ren :=
{ mixed := by kernel_rfl,
  f6 :=
    ⟨"slices.SortFunc[[]haymow/census.Row,haymow/census.Row]", of_decide_eq_true (by kernel_rfl), (Tryd.func56).trans (congrArg some (by kernel_rfl))⟩,
  f14 :=
    ⟨"slices.pdqsortCmpFunc[haymow/census.Row]", of_decide_eq_true (by kernel_rfl), (Tryd.func72).trans (congrArg some (by kernel_rfl))⟩,
  f15 := (Tryd.func73).trans (congrArg some (by kernel_rfl)),
  f20 :=
    ⟨"slices.insertionSortCmpFunc[haymow/census.Row]", of_decide_eq_true (by kernel_rfl), (Tryd.func80).trans (congrArg some (by kernel_rfl))⟩,
  f21 :=
    ⟨"slices.heapSortCmpFunc[haymow/census.Row]", of_decide_eq_true (by kernel_rfl), (Tryd.func81).trans (congrArg some (by kernel_rfl))⟩,
  f22 :=
    ⟨"slices.breakPatternsCmpFunc[haymow/census.Row]", of_decide_eq_true (by kernel_rfl), (Tryd.func82).trans (congrArg some (by kernel_rfl))⟩,
  f23 :=
    ⟨"slices.choosePivotCmpFunc[haymow/census.Row]", of_decide_eq_true (by kernel_rfl), (Tryd.func83).trans (congrArg some (by kernel_rfl))⟩,
  f24 :=
    ⟨"slices.reverseRangeCmpFunc[haymow/census.Row]", of_decide_eq_true (by kernel_rfl), (Tryd.func84).trans (congrArg some (by kernel_rfl))⟩,
  f25 :=
    ⟨"slices.partialInsertionSortCmpFunc[haymow/census.Row]", of_decide_eq_true (by kernel_rfl), (Tryd.func85).trans (congrArg some (by kernel_rfl))⟩,
  f26 :=
    ⟨"slices.partitionEqualCmpFunc[haymow/census.Row]", of_decide_eq_true (by kernel_rfl), (Tryd.func86).trans (congrArg some (by kernel_rfl))⟩,
  f27 :=
    ⟨"slices.partitionCmpFunc[haymow/census.Row]", of_decide_eq_true (by kernel_rfl), (Tryd.func87).trans (congrArg some (by kernel_rfl))⟩,
  f28 := (Tryd.func88).trans (congrArg some (by kernel_rfl)),
  f29 := (Tryd.func89).trans (congrArg some (by kernel_rfl)),
  f46 :=
    ⟨"slices.siftDownCmpFunc[haymow/census.Row]", of_decide_eq_true (by kernel_rfl), (Tryd.func93).trans (congrArg some (by kernel_rfl))⟩,
  f47 := (Tryd.func94).trans (congrArg some (by kernel_rfl)),
  f48 := (Tryd.func95).trans (congrArg some (by kernel_rfl)),
  f49 :=
    ⟨"slices.medianAdjacentCmpFunc[haymow/census.Row]", of_decide_eq_true (by kernel_rfl), (Tryd.func96).trans (congrArg some (by kernel_rfl))⟩,
  f50 :=
    ⟨"slices.medianCmpFunc[haymow/census.Row]", of_decide_eq_true (by kernel_rfl), (Tryd.func97).trans (congrArg some (by kernel_rfl))⟩,
  f57 :=
    ⟨"slices.order2CmpFunc[haymow/census.Row]", of_decide_eq_true (by kernel_rfl), (Tryd.func103).trans (congrArg some (by kernel_rfl))⟩,
  t0 := Tryd.underlying0, a0 := Tryd.isAgg0, z0 := Tryd.sizeOf0, v0 := Tryd.zeroValue0, t3 := Tryd.underlying3,
  a3 := Tryd.isAgg3, z3 := Tryd.sizeOf3, v3 := Tryd.zeroValue3, t4 := Tryd.underlying4, a4 := Tryd.isAgg4,
  z4 := Tryd.sizeOf4, v4 := Tryd.zeroValue4, t5 := Tryd.underlying5, a5 := Tryd.isAgg5, z5 := Tryd.sizeOf5,
  v5 := Tryd.zeroValue5, t9 := Tryd.underlying9, a9 := Tryd.isAgg9, z9 := Tryd.sizeOf9, v9 := Tryd.zeroValue9,
  t22 := Tryd.underlying88, a22 := Tryd.isAgg88, z22 := Tryd.sizeOf88, v22 := Tryd.zeroValue88,
  t25 := Tryd.underlying109, a25 := Tryd.isAgg109, z25 := Tryd.sizeOf109, v25 := Tryd.zeroValue109,
  t39 := Tryd.underlying95, a39 := Tryd.isAgg95, z39 := Tryd.sizeOf95, v39 := Tryd.zeroValue95,
  t45 := Tryd.underlying134, a45 := Tryd.isAgg134, z45 := Tryd.sizeOf134, v45 := Tryd.zeroValue134,
  t46 := Tryd.underlying135, a46 := Tryd.isAgg135, z46 := Tryd.sizeOf135, v46 := Tryd.zeroValue135,
  t50 := Tryd.underlying139, a50 := Tryd.isAgg139, z50 := Tryd.sizeOf139, v50 := Tryd.zeroValue139,
  t53 := Tryd.underlying117, a53 := Tryd.isAgg117, z53 := Tryd.sizeOf117, v53 := Tryd.zeroValue117,
  t55 := Tryd.underlying105, a55 := Tryd.isAgg105, z55 := Tryd.sizeOf105, v55 := Tryd.zeroValue105,
  t66 := Tryd.underlying144, a66 := Tryd.isAgg144, z66 := Tryd.sizeOf144, v66 := Tryd.zeroValue144,
  t70 := Tryd.underlying148, a70 := Tryd.isAgg148, z70 := Tryd.sizeOf148, v70 := Tryd.zeroValue148,
  t76 := Tryd.underlying153, a76 := Tryd.isAgg153, z76 := Tryd.sizeOf153, v76 := Tryd.zeroValue153,
  t77 := Tryd.underlying154, a77 := Tryd.isAgg154, z77 := Tryd.sizeOf154, v77 := Tryd.zeroValue154 }
end Go.Proofs.YtbjealobiblabaaDoor

namespace Go.Proofs.YtbjealobiblabaaDoor
open Go Go.RowKit
set_option maxRecDepth 100000
/-- An entry: a key of three numbers, and two. -/
abbrev KV := List Int × List Int
def kA (e : KV) : Int := e.1.headD 0
def kB (e : KV) : Int := e.1.tail.headD 0
def kC (e : KV) : Int := e.1.tail.tail.headD 0
def kD (e : KV) : Int := e.2.headD 0
def kE (e : KV) : Int := e.2.tail.headD 0
abbrev fs5 : List (KV → Int) := [kA, kB, kC, kD, kE]
theorem kq_neg {x y : Int} : cmpI x y < 0 ↔ x < y := by
  unfold cmpI
  by_cases h : x < y
  · simp [h]
  · by_cases h2 : y < x <;> simp [h, h2]
theorem kq_zero {x y : Int} : cmpI x y = 0 ↔ x = y := by
  unfold cmpI
  by_cases h : x < y
  · simp [h]; omega
  · by_cases h2 : y < x
    · simp [h, h2]; omega
    · simp [h, h2]; omega
theorem oq_neg {a b : Int} : orI a b < 0 ↔ a < 0 ∨ (a = 0 ∧ b < 0) := by
  unfold orI
  by_cases h : a = 0
  · subst h; simp
  · simp [h, show (a == 0) = false by simpa using h]
/-- The order of two keys. -/
def cfK (x y : KV) : Int := orI (cmpI (kA x) (kA y)) (orI (cmpI (kB x) (kB y)) (cmpI (kC x) (kC y)))
def LtK (x y : KV) : Prop := kA x < kA y ∨ (kA x = kA y ∧ (kB x < kB y ∨ (kB x = kB y ∧ kC x < kC y)))
theorem cfK_neg {x y : KV} : cfK x y < 0 ↔ LtK x y := by
  unfold cfK LtK
  rw [oq_neg, kq_neg, kq_zero, oq_neg, kq_neg, kq_zero, kq_neg]
def leK (x y : KV) : Bool := !decide (cfK y x < 0)
theorem leK_iff {x y : KV} : leK x y = true ↔ ¬ LtK y x := by
  unfold leK
  rw [Bool.not_eq_true', decide_eq_false_iff_not, cfK_neg]
/-- Entries by their keys' order. -/
def sortK (l : List KV) : List KV := l.mergeSort leK
theorem sortK_perm (l : List KV) : (sortK l).Perm l := List.mergeSort_perm _ _
theorem leK_trans (x y z : KV) (h1 : leK x y = true) (h2 : leK y z = true) : leK x z = true := by
  rw [leK_iff] at *
  unfold LtK at *
  omega
theorem leK_total (x y : KV) : (leK x y || leK y x) = true := by
  rw [Bool.or_eq_true, leK_iff, leK_iff]
  unfold LtK
  omega
theorem sortK_sorted (l : List KV) : (sortK l).Pairwise fun x y => leK x y = true := List.pairwise_mergeSort leK_trans leK_total l
theorem k3_eq {a b : List Int} (ha : a.length = 3) (hb : b.length = 3) (h0 : a.headD 0 = b.headD 0) (h1 : a.tail.headD 0 = b.tail.headD 0) (h2 : a.tail.tail.headD 0 = b.tail.tail.headD 0) : a = b := by
  match a, ha, b, hb with
  | [x, y, z], _, [x', y', z'], _ =>
    simp only [List.headD_cons, List.tail_cons] at h0 h1 h2
    rw [h0, h1, h2]
/-- Keys are of three numbers, and no two alike. -/
def KD (l : List KV) : Prop := (∀ e ∈ l, e.1.length = 3) ∧ (l.map (·.1)).Nodup
instance (l : List KV) : Decidable (KD l) := inferInstanceAs (Decidable (_ ∧ _))
theorem nodup_inj {l : List KV} (h : (l.map (·.1)).Nodup) {x y : KV} (hx : x ∈ l) (hy : y ∈ l) (e : x.1 = y.1) : x = y := by
  induction l with
  | nil => cases hx
  | cons a l ih =>
    rw [List.map_cons, List.nodup_cons] at h
    rcases List.mem_cons.1 hx with rfl | hx'
    · rcases List.mem_cons.1 hy with rfl | hy'
      · rfl
      · exact absurd (List.mem_map.2 ⟨y, hy', e.symm⟩) h.1
    · rcases List.mem_cons.1 hy with rfl | hy'
      · exact absurd (List.mem_map.2 ⟨x, hx', e⟩) h.1
      · exact ih h.2 hx' hy'
theorem KD.inj {l : List KV} (h : KD l) {x y : KV} (hx : x ∈ l) (hy : y ∈ l) (h1 : ¬ LtK x y) (h2 : ¬ LtK y x) : x = y := by
  refine nodup_inj h.2 hx hy (k3_eq (h.1 x hx) (h.1 y hy) ?_ ?_ ?_) <;>
  · unfold LtK at h1 h2
    unfold kA kB kC at h1 h2
    omega
theorem KD.perm {l l' : List KV} (h : KD l) (p : l.Perm l') : KD l' := ⟨fun e he => h.1 e (p.mem_iff.2 he), (p.map _).nodup h.2⟩
/-- One order for all that hold the same. -/
theorem sortK_eq {l l' : List KV} (h : KD l) (p : l.Perm l') : sortK l = sortK l' := by
  refine List.Perm.eq_of_pairwise (le := fun x y => leK x y = true) (fun a b ha hb h1 h2 => ?_) (sortK_sorted l) (sortK_sorted l') ((sortK_perm l).trans (p.trans (sortK_perm l').symm))
  exact h.inj ((sortK_perm l).mem_iff.1 ha) (p.mem_iff.2 ((sortK_perm l').mem_iff.1 hb)) (leK_iff.1 h2) (leK_iff.1 h1)
-- The comparison
theorem rows_cl (x y : KV) : F_ Tryd.prog L_co Tryd.f57 [] [] 99 [.agg (encA fs5 x), .agg (encA fs5 y)] noMem = some (.ret (vi (cfK x y)) ⟨[], 99⟩ true) := by kernel_rfl
theorem rows_cmp (m : MS) (x y : KV) : ∃ m', FSound Tryd.prog 57 m [.agg (encA fs5 x), .agg (encA fs5 y)] (vi (cfK x y)) m' :=
  ⟨m, pure_fn (c := bodyOf Tryd.f57) hE_co mixedP (fun xs w => Tryd.call57 xs w) Tryd.func57 rfl (rows_cl x y) rfl rfl⟩
/-- SortFunc over rows of the entries l. -/
def e_sortR (l : List KV) : Spec := fun m args => match args with
  | [.val (.slice none 0 0), .clo _ [] _] => some (.tup [], none, [])
  | [.sl _ b 5 0 1 n _, .clo g [] []] => match Nat.beq g 57 with
    | true => match look m.bl b with
      | some ⟨true, _, .rows [.ints .i64 c0, .ints .i64 c1, .ints .i64 c2, .ints .i64 c3, .ints .i64 c4]⟩ => some (.tup [], some ⟨upd m.bl b (some ⟨true, false, .rows (colsF fs5 (sortK l))⟩), m.nx⟩,
          [decide (KD l), decide (n = l.length), decide (c0 = l.map kA), decide (c1 = l.map kB), decide (c2 = l.map kC), decide (c3 = l.map kD), decide (c4 = l.map kE), Nat.ble l.length 4096, Nat.blt 0 l.length])
      | _ => none
    | false => none
  | _ => none
theorem sub_map {l : List KV} (f : KV → Int) : l.attach.map (fun e => f e.1) = l.map f := by
  have := congrArg (List.map f) (List.attach_map_subtype_val l)
  rw [List.map_map] at this
  exact this
abbrev fsS (l : List KV) : List ({e : KV // e ∈ l} → Int) := [fun e => kA e.1, fun e => kB e.1, fun e => kC e.1, fun e => kD e.1, fun e => kE e.1]
def cfA (l : List KV) (x y : {e : KV // e ∈ l}) : Int := cfK x.1 y.1
theorem ltA (l : List KV) (x y : {e : KV // e ∈ l}) : ltOf (cfA l) x y = true ↔ LtK x.1 y.1 := by
  unfold ltOf cfA
  rw [decide_eq_true_eq]
  exact cfK_neg
theorem ltA_f (l : List KV) (x y : {e : KV // e ∈ l}) : ltOf (cfA l) x y = false ↔ ¬ LtK x.1 y.1 := by
  rw [← ltA l x y, Bool.not_eq_true]
theorem swoA (l : List KV) : Go.Sort.SWO (ltOf (cfA l)) where
  irrefl x := by rw [ltA_f]; unfold LtK; omega
  trans x y z h1 h2 := by rw [ltA] at *; unfold LtK at *; omega
  ntrans x y z h1 h2 := by rw [ltA_f] at *; unfold LtK at *; omega
theorem sortA (l : List KV) (d : List {e : KV // e ∈ l}) : (d.mergeSort fun x y => !(ltOf (cfA l)) y x).map Subtype.val = sortK (d.map Subtype.val) := by
  unfold sortK
  exact List.map_mergeSort fun a _ b _ => rfl
theorem agg24 : ∀ w, (isAgg (Tryd.layQ6_ren.t 24)).run Tryd.prog w = .ok true w := fun w => by kernel_rfl
theorem size24 : ∀ w, (Go.sizeOf (Tryd.layQ6_ren.t 24)).run Tryd.prog w = .ok 5 w := fun w => by kernel_rfl
theorem ok_sortR (l : List KV) : SpecOk Tryd.prog 56 (e_sortR l) := fun m args v mo bs h hb => by
  unfold e_sortR at h
  split at h
  · rename_i g cs
    cases h
    intro ρ w xs hm hx
    simp only [AV.rels] at hx
    obtain ⟨y, ys, rfl, hy, z, zs, rfl, hz, rfl⟩ := hx
    simp only [AV.rel] at hy hz
    subst hy
    refine .inl ⟨_, Tryd.call56 _ w, Calls.mono (AnyF.slices_SortFunc_none (P := Tryd.prog) (ρ := Tryd.layQ6_ren) Tryd.layQ6 none 0 z w) fun e w' ⟨he, hw'⟩ => ?_⟩
    subst hw'
    exact ⟨_, he, ρ, by simp only [AV.rel, AV.rels]; exact ⟨[], rfl, rfl⟩, hm, Moves.refl (Nat.le_refl _)⟩
  · rename_i nn b n cap g
    split at h <;> try cases h
    rename_i hg
    have hg := Nat.eq_of_beq_eq_true hg
    subst hg
    split at h <;> cases h
    rename_i _ op c0 c1 c2 c3 c4 hl
    simp only [List.all_cons, List.all_nil, id, Bool.and_true, Bool.and_eq_true, decide_eq_true_eq] at hb
    obtain ⟨h1, h2, e0, e1, e2, e3, e4, h5, h6⟩ := hb
    subst h2 e0 e1 e2 e3 e4
    have h5 := Nat.le_of_ble_eq_true h5
    have h6 : 0 < l.length := Nat.le_of_ble_eq_true h6
    have hne : ∃ x, x ∈ l := List.exists_mem_of_length_pos h6
    haveI : Inhabited {e : KV // e ∈ l} := ⟨⟨hne.choose, hne.choose_spec⟩⟩
    have hcols : ∀ d : List {e : KV // e ∈ l}, colsF (fsS l) d = colsF fs5 (d.map Subtype.val) := fun d => by
      simp only [colsF, List.map_cons, List.map_nil, List.map_map]
      rfl
    have g := sort_rows (f := 56) (g := 57) (m := m) (l := b) (op := op) (nn := nn) (cap := cap) (cs := []) Tryd.layQ6 (fsS l) agg24 size24 (cfA l) (swoA l) (fun x y g1 g2 => Subtype.ext (h1.inj x.2 y.2 ((ltA_f l x y).1 g1) ((ltA_f l y x).1 g2))) l.attach (by rw [List.length_attach]; omega) (by rw [List.length_attach]; exact h6)
      (by rw [hcols, List.attach_map_subtype_val]; exact hl) (fun xs w => Tryd.call56 xs w) (fun xs w => Tryd.call57 xs w) (fun x y => rows_cmp _ x.1 y.1)
    rw [hcols, sortA, List.attach_map_subtype_val, List.length_attach] at g
    exact g
  · cases h
-- The walk over the map
theorem sub_len {l s : List Nat} (hl : l.Nodup) (h : ∀ x ∈ l, x ∈ s) : l.length ≤ s.length := by
  induction l generalizing s with
  | nil => exact Nat.zero_le _
  | cons a l ih =>
    rw [List.nodup_cons] at hl
    have ha := h a (List.mem_cons_self ..)
    have h1 := ih (s := s.erase a) hl.2 fun x hx => (List.mem_erase_of_ne (fun e => hl.1 (by rw [← e]; exact hx))).2 (h x (List.mem_cons_of_mem _ hx))
    rw [List.length_erase_of_mem ha] at h1
    have := List.length_pos_of_mem ha
    simp only [List.length_cons]
    omega
theorem seen_full {n : Nat} {seen : List Nat} (hn : seen.Nodup) (hl : ∀ x ∈ seen, x < n) (he : seen.length = n) {j : Nat} (hj : j < n) : j ∈ seen := by
  by_cases h : j ∈ seen
  · exact h
  · have := sub_len (l := j :: seen) (s := List.range n) (List.nodup_cons.2 ⟨h, hn⟩) fun x hx => by
      rcases List.mem_cons.1 hx with rfl | hx
      · exact List.mem_range.2 hj
      · exact List.mem_range.2 (hl x hx)
    rw [List.length_range, List.length_cons] at this
    omega
theorem seen_all {n : Nat} {seen : List Nat} (h : ∀ j, j < n → j ∈ seen) : n ≤ seen.length := by
  have := sub_len (l := List.range n) (s := seen) List.nodup_range fun x hx => h x (List.mem_range.1 hx)
  rwa [List.length_range] at this
/-- The entries in the order they were seen. -/
def seenL (es : List KV) (seen : List Nat) : List KV := seen.reverse.map fun j => es.getD j ([], [])
theorem seenL_cons (es : List KV) (seen : List Nat) (j : Nat) : seenL es (j :: seen) = seenL es seen ++ [es.getD j ([], [])] := by simp [seenL]
theorem seenL_len (es : List KV) (seen : List Nat) : (seenL es seen).length = seen.length := by simp [seenL]
theorem seenL_perm {es : List KV} {seen : List Nat} (hn : seen.Nodup) (hl : ∀ x ∈ seen, x < es.length) (he : seen.length = es.length) : es.Perm (seenL es seen) := by
  have p : (List.range es.length).Perm seen.reverse := by
    rw [List.perm_iff_count]
    intro a
    by_cases h : a < es.length
    · rw [List.count_reverse]
      have h1 : seen.count a = 1 := List.Nodup.count hn |>.trans (if_pos (seen_full hn hl he h))
      have h2 : (List.range es.length).count a = 1 := List.Nodup.count List.nodup_range |>.trans (if_pos (List.mem_range.2 h))
      rw [h1, h2]
    · rw [List.count_reverse, List.count_eq_zero_of_not_mem (fun h' => h (hl a h')), List.count_eq_zero_of_not_mem (fun h' => h (List.mem_range.1 h'))]
  have := p.map fun j => es.getD j ([], [])
  have e : (List.range es.length).map (fun j => es.getD j ([], [])) = es := by
    apply List.ext_getElem
    · simp
    · intro i h1 h2
      simp [List.getD_eq_getElem?_getD, h2]
  rwa [e] at this
abbrev rC : List Cut := [(2,[0,2,3,12],[0,1,2,12],19)]
abbrev rT (x : AV) : List AV := [.ptr 0 1 0 0, .unk, .val (.slice none 0 0), x, .unk, .unk, .unk, .unk, .unk, .unk, .unk, .unk, .ptr 2 1 0 0] ++ List.replicate 14 .unk
abbrev rI (es : List KV) : List (Nat × Option ABlk) := [(0, some ⟨false, false, .cells [.mp 1]⟩), (1, some ⟨false, false, .obj (.mpo 3 2 es)⟩)]
abbrev rW (es : List KV) (seen : List Nat) : Nat × Option ABlk := (2, some ⟨true, false, .obj (.mit [.mp 1] es.length seen)⟩)
abbrev rR (k : Nat) (l : List KV) : Nat × Option ABlk := (k, some ⟨true, true, .rows (colsF fs5 l)⟩)
theorem rows_in (es : List KV) : FO_ Tryd.prog [] Tryd.f40 rC [] 99 [2] [.ptr 0 1 0 0] ⟨rI es, 2⟩ = some (.head (hd Tryd.f40 0) (rT (.val (.slice none 0 0))) ⟨rI es ++ [rW es [], (12, none)], 19⟩ true) := by kernel_rfl
theorem rows_end (es : List KV) (l : List KV) (seen : List Nat) (n : Nat) : NX_ Tryd.prog [(56, e_sortR l)] Tryd.f40 rC [3] 99 [2] none (hd Tryd.f40 0) (rT (.sl true 3 5 0 1 n none)) ⟨rI es ++ [rW es seen, rR 3 l], 9⟩ =
    some (.ret (.sl true 3 5 0 1 n none) ⟨[(3, some ⟨true, false, .rows (colsF fs5 (sortK l))⟩)], 99⟩ (conj [decide (KD l), decide (n = l.length), decide (l.map kA = l.map kA), decide (l.map kB = l.map kB), decide (l.map kC = l.map kC), decide (l.map kD = l.map kD), decide (l.map kE = l.map kE), Nat.ble l.length 4096, Nat.blt 0 l.length])) := by kernel_rfl
end Go.Proofs.YtbjealobiblabaaDoor

namespace Go.Proofs.YtbjealobiblabaaDoor
open Go Go.RowKit
section
variable {P : Program}
theorem two_look {b0 b1 : Option ABlk} {k : Nat} {b : ABlk} (h : look [(0, b0), (1, b1)] k = some b) : (k = 0 ∧ b0 = some b) ∨ (k = 1 ∧ b1 = some b) := by
  rw [look_cons] at h
  split at h
  · rename_i e; exact .inl ⟨e.symm, h⟩
  · rw [look_cons] at h
    split at h
    · rename_i e; exact .inr ⟨e.symm, h⟩
    · cases h
theorem sim_m {m : MS} {l lm fk fv : Nat} {wr op wr' op' : Bool} {es : List (List Int × List Int)} (hl : look m.bl l = some ⟨wr, op, .cells [.mp lm]⟩) (hlm : look m.bl lm = some ⟨wr', op', .obj (.mpo fk fv es)⟩) {br : List AV} (hb : AV.grounds br = true) :
    ∀ (ρ : Rho) (w : World) (xs : List Value), MRel ρ m w → AV.rels ρ m.nx (.ptr l 1 0 0 :: br) xs → ∃ ρ1, MRel ρ1 ⟨[(0, some ⟨false, false, .cells [.mp 1]⟩), (1, some ⟨false, false, .obj (.mpo fk fv es)⟩)], 2⟩ w ∧ AV.rels ρ1 2 (.ptr 0 1 0 0 :: br) xs := fun ρ w xs hm hx => by
  let ρ1 : Rho := fun k => match k with
    | 0 => ρ l
    | _ => ρ lm
  simp only [AV.rels] at hx
  obtain ⟨z, zs, rfl, hz, hbr⟩ := hx
  simp only [AV.rel] at hz
  have h0 := (hm.blk l _ hl).2
  refine ⟨ρ1, mrel_two ⟨?_, ?_, (fun h => by cases h), (fun h => by cases h), fun q h => by cases h⟩ (hm.view hlm rfl ρ1 2) rfl rfl, ?_⟩
  · rcases h0.lt with h | h
    · exact .inl h
    · exact absurd rfl (h.2.2.2 0 0 (.mp lm))
  · intro r c a ha
    match r, c, ha with
    | 0, 0, ha =>
      cases ha
      obtain ⟨h1, x, h2, h3⟩ := h0.rel 0 0 (.mp lm) rfl
      refine ⟨h1, x, h2, ?_⟩
      simp only [AV.rel] at h3 ⊢
      exact ⟨by show (1 : Nat) < 2; omega, h3.2⟩
    | r + 1, 0, ha => cases ha
    | r, c + 1, ha => cases ha
  · simp only [AV.rels]
    refine ⟨z, zs, rfl, ?_, AV.grounds_rels _ _ hb hbr⟩
    simp only [AV.rel]
    exact ⟨by show (0 : Nat) < 2; omega, hz.2⟩
theorem lift_mr {f : FuncId} {m m1' : MS} {v : AV} {l lm fk fv : Nat} {wr op wr' op' : Bool} {es : List (List Int × List Int)} {br : List AV} (hl : look m.bl l = some ⟨wr, op, .cells [.mp lm]⟩) (hlm : look m.bl lm = some ⟨wr', op', .obj (.mpo fk fv es)⟩)
    (h : FSound P f ⟨[(0, some ⟨false, false, .cells [.mp 1]⟩), (1, some ⟨false, false, .obj (.mpo fk fv es)⟩)], 2⟩ (.ptr 0 1 0 0 :: br) v m1') (hb : AV.grounds br = true) (hv : v.ground = true) : FSound P f m (.ptr l 1 0 0 :: br) v m :=
  lift_pure h rfl hv (sim_m hl hlm hb)
theorem lift_mw {f : FuncId} {m : MS} {v : AV} {l lm fk fv top : Nat} {wr op op' o2 : Bool} {es es' : List (List Int × List Int)} {br : List AV} (hl : look m.bl l = some ⟨wr, op, .cells [.mp lm]⟩) (hlm : look m.bl lm = some ⟨true, op', .obj (.mpo fk fv es)⟩)
    (h : FSound P f ⟨[(0, some ⟨false, false, .cells [.mp 1]⟩), (1, some ⟨true, false, .obj (.mpo fk fv es)⟩)], 2⟩ (.ptr 0 1 0 0 :: br) v ⟨[(1, some ⟨true, o2, .obj (.mpo fk fv es')⟩)], top⟩) (hb : AV.grounds br = true) (hv : v.ground = true) :
    FSound P f m (.ptr l 1 0 0 :: br) v ⟨upd m.bl lm (some ⟨true, o2, .obj (.mpo fk fv es')⟩), m.nx⟩ := by
  have hne : l ≠ lm := fun e => by subst e; rw [hl] at hlm; cases hlm
  have := lift_gen (m := m) (args := .ptr l 1 0 0 :: br) (σi := [(0, l), (1, lm)]) (σo := [(l, 0), (lm, 1)]) (nx' := m.nx) h (by
      simp only [AV.rens, AV.ren, newOf, Nat.beq_refl]
      rw [AV.rens_ground _ hb]) (fun k b1 hk => by
      rcases two_look hk with ⟨rfl, e⟩ | ⟨rfl, e⟩
      · cases e
        refine ⟨l, _, by simp, hl, ?_, (fun h => by cases h), fun h => by cases h⟩
        simp only [Cont.ren, AV.rens, AV.ren, newOf, nbeq_ne hne, Nat.beq_refl]
      · cases e
        exact ⟨lm, _, by simp, hlm, (Cont.ren_ground rfl).symm, fun _ => rfl, fun h => by cases h⟩)
    (fun p hp => by
      simp only [List.mem_cons, List.not_mem_nil, or_false] at hp
      rcases hp with rfl | rfl
      · exact ⟨by show (0 : Nat) < 2; omega, by simp⟩
      · exact ⟨by show (1 : Nat) < 2; omega, by simp⟩)
    rfl (by simp [distB, memB, nbeq_ne (Ne.symm hne)]) (by simp [distB, memB, nbeq_ne (Ne.symm hne)]) rfl
    (fun p hp => by
      simp only [List.mem_cons, List.not_mem_nil, or_false] at hp
      rcases hp with rfl | rfl
      · exact ⟨_, hl⟩
      · exact ⟨_, hlm⟩)
    (fun p hp => by
      simp only [List.mem_cons, List.not_mem_nil, or_false] at hp
      rcases hp with rfl | rfl
      · exact .inl (by simp)
      · exact .inl (by simp)) (Nat.le_refl _) (fun k bk hk _ => by
      rw [look_cons] at hk
      split at hk
      · cases hk; rfl
      · cases hk)
  rw [AV.ren_ground _ hv] at this
  refine this.less rfl fun k bk hk => ?_
  have e : outB [(l, 0), (lm, 1)] [(0, some ⟨false, false, .cells [.mp 1]⟩), (1, some ⟨true, false, .obj (.mpo fk fv es)⟩)] [(1, some ⟨true, o2, .obj (.mpo fk fv es')⟩)] [(l, 0), (lm, 1)] m.bl = (lm, some ⟨true, o2, .obj (.mpo fk fv es')⟩) :: m.bl := rfl
  rw [look_upd] at hk
  show look (outB [(l, 0), (lm, 1)] [(0, some ⟨false, false, .cells [.mp 1]⟩), (1, some ⟨true, false, .obj (.mpo fk fv es)⟩)] [(1, some ⟨true, o2, .obj (.mpo fk fv es')⟩)] [(l, 0), (lm, 1)] m.bl) k = some bk
  rw [e, look_cons]
  exact hk
theorem sim_sl {m : MS} {l wd s n : Nat} {nn : Bool} {cap : Option Nat} {b : ABlk} (hl : look m.bl l = some b) (hg : b.cont.ground = true) (hpl : b.cont.plain = true) {br : List AV} (hb : AV.grounds br = true) :
    ∀ (ρ : Rho) (w : World) (xs : List Value), MRel ρ m w → AV.rels ρ m.nx (.sl nn l wd 0 s n cap :: br) xs → ∃ ρ1, MRel ρ1 ⟨[(0, some ⟨false, false, b.cont⟩)], 1⟩ w ∧ AV.rels ρ1 1 (.sl false 0 wd 0 s n none :: br) xs := fun ρ w xs hm hx => by
  simp only [AV.rels] at hx
  obtain ⟨z, zs, rfl, hz, hbr⟩ := hx
  simp only [AV.rel] at hz
  obtain ⟨hll, A, cc, rfl, hnc, hA, _, _⟩ := hz
  have hv := hm.view hl hg (fun _ => ⟨(ρ l).b, (ρ l).o, cc * (s * wd), 0⟩) 1
  refine ⟨fun _ => ⟨(ρ l).b, (ρ l).o, cc * (s * wd), 0⟩, mrel_one ⟨hv.lt, hv.rel, (fun h => by cases h), (fun h => by cases h), fun q h => absurd h (Cont.plain_ne hpl q)⟩, ?_⟩
  simp only [AV.rels]
  refine ⟨_, _, rfl, ?_, AV.grounds_rels _ _ hb hbr⟩
  simp only [AV.rel]
  exact ⟨by omega, A, cc, rfl, hnc, hA, (fun h => by cases h), by simp⟩
end
end Go.Proofs.YtbjealobiblabaaDoor

namespace Go.Proofs.YtbjealobiblabaaDoor
open Go Go.RowKit
set_option maxRecDepth 100000
abbrev L_sortR (l : List KV) : List (FuncId × Spec) := [(56, e_sortR l)]
theorem hE_sortR (l : List KV) : ESound Tryd.prog (envOf (L_sortR l)) := env_cons (ok_sortR l) env_nil
theorem rows_mit (es : List KV) (seen : List Nat) (x : AV) (b : Nat × Option ABlk) : mitN (hd Tryd.f40 0) (rT x) ⟨rI es ++ [rW es seen, b], 9⟩ = some (es.length, seen, es.length) := by kernel_rfl
theorem rows_mit0 (es : List KV) (seen : List Nat) (x : AV) : mitN (hd Tryd.f40 0) (rT x) ⟨rI es ++ [rW es seen], 9⟩ = some (es.length, seen, es.length) := by kernel_rfl
theorem rows_round' (l0 es : List KV) (l : List KV) (seen : List Nat) (j n : Nat) : NX_ Tryd.prog (L_sortR l0) Tryd.f40 rC [] 99 [2] (some j) (hd Tryd.f40 0) (rT (.sl true 3 5 0 1 n none)) ⟨rI es ++ [rW es seen, rR 3 l], 9⟩ =
    some (.head (hd Tryd.f40 0) (rT (.sl true 12 5 0 1 (n + 1) none)) ⟨rI es ++ [rW es (j :: seen), (12, some ⟨true, true, .rows [.ints .i64 (List.take n (l.map kA) ++ [kA (es.getD j ([], []))]), .ints .i64 (List.take n (l.map kB) ++ [kB (es.getD j ([], []))]), .ints .i64 (List.take n (l.map kC) ++ [kC (es.getD j ([], []))]), .ints .i64 (List.take n (l.map kD) ++ [kD (es.getD j ([], []))]), .ints .i64 (List.take n (l.map kE) ++ [kE (es.getD j ([], []))])]⟩)], 19⟩
      (conj [Nat.beq es.length es.length, Nat.blt j es.length, decide (0 < n), decide ((n + 1) * 40 ≤ 140737488355328), decide (n ≤ (l.map kA).length), decide (n ≤ (l.map kB).length), decide (n ≤ (l.map kC).length), decide (n ≤ (l.map kD).length), decide (n ≤ (l.map kE).length)])) := by kernel_rfl
theorem rows_first' (l0 es : List KV) (j : Nat) : NX_ Tryd.prog (L_sortR l0) Tryd.f40 rC [] 99 [2] (some j) (hd Tryd.f40 0) (rT (.val (.slice none 0 0))) ⟨rI es ++ [rW es []], 9⟩ =
    some (.head (hd Tryd.f40 0) (rT (.sl true 12 5 0 1 1 none)) ⟨rI es ++ [rW es [j], rR 12 [es.getD j ([], [])]], 19⟩ (conj [Nat.beq es.length es.length, Nat.blt j es.length])) := by kernel_rfl
theorem take_map {f : KV → Int} {l : List KV} {n : Nat} (h : n = l.length) (x : KV) : List.take n (l.map f) ++ [f x] = (l ++ [x]).map f := by
  rw [List.take_of_length_le (by rw [List.length_map]; omega), List.map_append]; rfl
theorem rows_loop (es : List KV) (hk : KD es) (hn : es.length ≤ 4096) : ∀ (j : Nat) (seen : List Nat), seen.Nodup → (∀ x ∈ seen, x < es.length) → 0 < seen.length → seen.length + j = es.length →
    Gives_ Tryd.prog Tryd.f40 2 ⟨hd Tryd.f40 0, rT (.sl true 3 5 0 1 seen.length none), ⟨rI es ++ [rW es seen, rR 3 (seenL es seen)], 9⟩⟩ (.sl true 3 5 0 1 es.length none) ⟨[(3, some ⟨true, false, .rows (colsF fs5 (sortK es))⟩)], 99⟩
  | 0, seen, h1, h2, h3, h4 => by
    refine next_gives' (hE_sortR (seenL es seen)) (rows_mit es seen _ _) fun jo hv id ops k hx => ?_
    cases jo with
    | some j => exact absurd (seen_full h1 h2 (by omega) hv.1) hv.2
    | none =>
      have p := seenL_perm h1 h2 (by omega)
      have h := rows_end es (seenL es seen) seen seen.length
      rw [← sortK_eq hk p, decide_eq_true (hk.perm p), seenL_len, decide_eq_true (rfl : seen.length = seen.length), decide_eq_true (rfl : (seenL es seen).map kA = _), decide_eq_true (rfl : (seenL es seen).map kB = _), decide_eq_true (rfl : (seenL es seen).map kC = _), decide_eq_true (rfl : (seenL es seen).map kD = _), decide_eq_true (rfl : (seenL es seen).map kE = _),
        Nat.ble_eq_true_of_le (show seen.length ≤ 4096 by omega), show Nat.blt 0 seen.length = true from Nat.ble_eq_true_of_le h3] at h
      have e : es.length = seen.length := by omega
      rw [e]
      exact NX_ret (hE_sortR _) mixedP rfl hx h rfl
  | j + 1, seen, h1, h2, h3, h4 => by
    refine next_gives' (hE_sortR (seenL es seen)) (rows_mit es seen _ _) fun jo hv id ops k hx => ?_
    cases jo with
    | none => have := seen_all hv; omega
    | some i =>
      obtain ⟨hi, hni⟩ := hv
      have h := rows_round' (seenL es seen) es (seenL es seen) seen i seen.length
      have hl := seenL_len es seen
      rw [take_map hl.symm, take_map hl.symm, take_map hl.symm, take_map hl.symm, take_map hl.symm, ← seenL_cons, List.length_map, List.length_map, List.length_map, List.length_map, List.length_map, hl, Nat.beq_refl, show Nat.blt i es.length = true from Nat.ble_eq_true_of_le hi, decide_eq_true h3, decide_eq_true (show (seen.length + 1) * 40 ≤ 140737488355328 by omega), decide_eq_true (Nat.le_refl seen.length)] at h
      refine NX_head (hE_sortR _) mixedP rfl hx h rfl (Goes.gives (Goes.ren (P := Tryd.prog) (B := 2) (σ := [(0, 0), (1, 1), (2, 2), (3, 12)]) (nx := 9) rfl) ?_)
      exact rows_loop es hk hn j (i :: seen) (List.nodup_cons.2 ⟨hni, h1⟩) (fun x hx => by
        rcases List.mem_cons.1 hx with rfl | hx
        · exact hi
        · exact h2 x hx) (Nat.succ_pos _) (by simp only [List.length_cons]; omega)
theorem rows_none' : NX_ Tryd.prog (L_sortR []) Tryd.f40 rC [] 99 [2] none (hd Tryd.f40 0) (rT (.val (.slice none 0 0))) ⟨rI [] ++ [rW [] []], 9⟩ =
    some (.ret (.val (.slice none 0 0)) ⟨[], 99⟩ true) := by kernel_rfl
theorem rows_go (es : List KV) : Goes Tryd.prog 2 (enterA Tryd.f40 (bodyOf Tryd.f40) [.ptr 0 1 0 0] ⟨rI es, 2⟩) ⟨hd Tryd.f40 0, rT (.val (.slice none 0 0)), ⟨rI es ++ [rW es []], 9⟩⟩ :=
  (FO_head (f := Tryd.f40) (c := bodyOf Tryd.f40) (m := ⟨rI es, 2⟩) env_nil mixedP rfl rfl (rows_in es) rfl).trans (Goes.ren (P := Tryd.prog) (B := 2) (σ := [(0, 0), (1, 1), (2, 2)]) (nx := 9) rfl)
theorem rows_some (es : List KV) (hk : KD es) (hn : es.length ≤ 4096) (hp : 0 < es.length) : Gives_ Tryd.prog Tryd.f40 2 (enterA Tryd.f40 (bodyOf Tryd.f40) [.ptr 0 1 0 0] ⟨rI es, 2⟩) (.sl true 3 5 0 1 es.length none) ⟨[(3, some ⟨true, false, .rows (colsF fs5 (sortK es))⟩)], 99⟩ := by
  refine Goes.gives (rows_go es) (next_gives' (hE_sortR []) (rows_mit0 es [] _) fun jo hv id ops k hx => ?_)
  cases jo with
  | none => have := hv 0 hp; cases this
  | some i =>
    have h := rows_first' [] es i
    rw [Nat.beq_refl, show Nat.blt i es.length = true from Nat.ble_eq_true_of_le hv.1] at h
    refine NX_head (hE_sortR _) mixedP rfl hx h rfl (Goes.gives (Goes.ren (P := Tryd.prog) (B := 2) (σ := [(0, 0), (1, 1), (2, 2), (3, 12)]) (nx := 9) rfl) ?_)
    exact rows_loop es hk hn (es.length - 1) [i] (by simp) (fun x hx => by rw [List.mem_singleton.1 hx]; exact hv.1) (Nat.succ_pos _) (by simp only [List.length_singleton]; omega)
theorem rows_nil : Gives_ Tryd.prog Tryd.f40 2 (enterA Tryd.f40 (bodyOf Tryd.f40) [.ptr 0 1 0 0] ⟨rI [], 2⟩) (.val (.slice none 0 0)) ⟨[], 99⟩ := by
  refine Goes.gives (rows_go []) (next_gives' (hE_sortR []) (rows_mit0 [] [] _) fun jo hv id ops k hx => ?_)
  cases jo with
  | none => exact NX_ret (hE_sortR _) mixedP rfl hx rows_none' rfl
  | some i => exact absurd hv.1 (by simp)
theorem rows_nilp : F_ Tryd.prog [] Tryd.f40 [] [] 99 [.val (.pointer none)] noMem = some (.ret (.val (.slice none 0 0)) ⟨[], 99⟩ true) := by kernel_rfl
def e_rows : Spec := fun m args => match args with
  | [.val (.pointer none)] => some (.val (.slice none 0 0), none, [])
  | [.ptr l 1 0 0] => match look m.bl l with
    | some ⟨_, _, .cells [.mp lm]⟩ => match look m.bl lm with
      | some ⟨_, _, .obj (.mpo 3 2 es)⟩ => some (.sl false m.nx 5 0 1 es.length none, some ⟨(m.nx, some ⟨false, false, .rows (colsF fs5 (sortK es))⟩) :: m.bl, m.nx + 1⟩, [decide (KD es), Nat.ble es.length 4096])
      | _ => none
    | _ => none
  | _ => none
theorem ok_rows : SpecOk Tryd.prog 40 e_rows := fun m args v mo bs h hb => by
  unfold e_rows at h
  split at h
  · cases h
    exact pure_fn (c := bodyOf Tryd.f40) env_nil mixedP (fun xs w => Tryd.call40 xs w) Tryd.func40 rfl rows_nilp rfl rfl
  · rename_i l
    split at h <;> try cases h
    rename_i wr op lm hl
    split at h <;> cases h
    rename_i _ wr' op' es hlm
    simp only [List.all_cons, List.all_nil, id, Bool.and_true, Bool.and_eq_true, decide_eq_true_eq] at hb
    obtain ⟨hk, hn⟩ := hb
    have hn := Nat.le_of_ble_eq_true hn
    refine lift_list (m1 := ⟨rI es, 2⟩) (args1 := [.ptr 0 1 0 0]) rfl rfl rfl (sim_m (br := []) hl hlm rfl) ?_
    by_cases hp : 0 < es.length
    · exact .inr ⟨_, _, _, _, _, _, rfl, says_self rfl, fsound (c := bodyOf Tryd.f40) (fun xs w => Tryd.call40 xs w) Tryd.func40 rfl (rows_some es hk hn hp)⟩
    · have h0 : es = [] := List.length_eq_zero_iff.1 (by omega)
      subst h0
      refine .inl ⟨rfl, fun r c' a ha => ?_, _, fsound (c := bodyOf Tryd.f40) (fun xs w => Tryd.call40 xs w) Tryd.func40 rfl rows_nil⟩
      match c', ha with
      | 0, ha => simp [Cont.at, Col.at, colsF, sortK] at ha
      | 1, ha => simp [Cont.at, Col.at, colsF, sortK] at ha
      | 2, ha => simp [Cont.at, Col.at, colsF, sortK] at ha
      | 3, ha => simp [Cont.at, Col.at, colsF, sortK] at ha
      | 4, ha => simp [Cont.at, Col.at, colsF, sortK] at ha
      | c' + 5, ha => cases ha
  · cases h
end Go.Proofs.YtbjealobiblabaaDoor

namespace Go.Proofs.YtbjealobiblabaaDoor
open Go Go.Shelf
def Tryd.lays129_ren : Ren :=
{
  f := fun x =>
    match x with
    | 129 => 89
    | n => n,
  t := fun x =>
    match x with
    | 53 => 105
    | 3 => 3
    | 4 => 4
    | 46 => 95
    | 5 => 5
    | 9 => 9
    | n => n,
  g := fun x => x }
theorem Tryd.lays129 : Lays.n129 Tryd.prog Tryd.lays129_ren :=
{ mixed := by kernel_rfl, f129 := (Tryd.func89).trans (congrArg some (by kernel_rfl)),
  t3 := Tryd.underlying3, a3 := Tryd.isAgg3, z3 := Tryd.sizeOf3, v3 := Tryd.zeroValue3, t4 := Tryd.underlying4,
  a4 := Tryd.isAgg4, z4 := Tryd.sizeOf4, v4 := Tryd.zeroValue4, t5 := Tryd.underlying5, a5 := Tryd.isAgg5,
  z5 := Tryd.sizeOf5, v5 := Tryd.zeroValue5, t9 := Tryd.underlying9, a9 := Tryd.isAgg9, z9 := Tryd.sizeOf9,
  v9 := Tryd.zeroValue9, t46 := Tryd.underlying95, a46 := Tryd.isAgg95, z46 := Tryd.sizeOf95, v46 := Tryd.zeroValue95,
  t53 := Tryd.underlying105, a53 := Tryd.isAgg105, z53 := Tryd.sizeOf105, v53 := Tryd.zeroValue105 }
def Tryd.lays125_ren : Ren :=
{
  f := fun x =>
    match x with
    | 125 => 73
    | 128 => 88
    | 129 => 89
    | n => n,
  t := fun x =>
    match x with
    | 46 => 95
    | 3 => 3
    | 51 => 117
    | 53 => 105
    | 4 => 4
    | 5 => 5
    | 9 => 9
    | n => n,
  g := fun x => x }
theorem Tryd.lays125 : Lays.n125 Tryd.prog Tryd.lays125_ren :=
{ mixed := by kernel_rfl, f125 := (Tryd.func73).trans (congrArg some (by kernel_rfl)),
  f128 := (Tryd.func88).trans (congrArg some (by kernel_rfl)),
  f129 := (Tryd.func89).trans (congrArg some (by kernel_rfl)), t3 := Tryd.underlying3,
  a3 := Tryd.isAgg3, z3 := Tryd.sizeOf3, v3 := Tryd.zeroValue3, t4 := Tryd.underlying4, a4 := Tryd.isAgg4,
  z4 := Tryd.sizeOf4, v4 := Tryd.zeroValue4, t5 := Tryd.underlying5, a5 := Tryd.isAgg5, z5 := Tryd.sizeOf5,
  v5 := Tryd.zeroValue5, t9 := Tryd.underlying9, a9 := Tryd.isAgg9, z9 := Tryd.sizeOf9, v9 := Tryd.zeroValue9,
  t46 := Tryd.underlying95, a46 := Tryd.isAgg95, z46 := Tryd.sizeOf95, v46 := Tryd.zeroValue95,
  t51 := Tryd.underlying117, a51 := Tryd.isAgg117, z51 := Tryd.sizeOf117, v51 := Tryd.zeroValue117,
  t53 := Tryd.underlying105, a53 := Tryd.isAgg105, z53 := Tryd.sizeOf105, v53 := Tryd.zeroValue105 }
end Go.Proofs.YtbjealobiblabaaDoor

namespace Go.Proofs.YtbjealobiblabaaDoor
open Go Go.RowKit Go.Shelf
def e_len : Spec := fun _ args => match args with
  | [.val (.int .u64 x)] => some (vi (Lib.bitLen x.toNat), none, [decide (0 ≤ x), decide (x ≤ 18446744073709551615)])
  | _ => none
theorem ok_len64 : SpecOk Tryd.prog 89 e_len := fun m args v mo bs h hb => by
  unfold e_len at h
  split at h
  · cases h
    simp at hb
    exact calls_int (fun xs w => Tryd.call89 xs w) fun w => Any.bits_Len64 Tryd.lays129 _ w hb.1 hb.2
  · cases h
theorem ok_len : SpecOk Tryd.prog 73 e_len := fun m args v mo bs h hb => by
  unfold e_len at h
  split at h
  · cases h
    simp at hb
    exact calls_int (fun xs w => Tryd.call73 xs w) fun w => Any.bits_Len Tryd.lays125 _ w hb.1 hb.2
  · cases h
def L_len : List (FuncId × Spec) := [(89, e_len), (73, e_len)]
theorem hE_len : ESound Tryd.prog (envOf L_len) := env_cons ok_len64 (env_cons ok_len env_nil)
end Go.Proofs.YtbjealobiblabaaDoor

namespace Go.Proofs.YtbjealobiblabaaDoor
open Go Go.RowKit
def header_within_0 (n_ : Int) (most_ : Int) : Bool := bif decide (0 ≤ n_) then decide (n_ ≤ most_) else false
def s_header_within (n_ : Int) (most_ : Int) : AV := AV.val (Value.bool (header_within_0 n_ most_))
theorem t_header_within (n_ : Int) (most_ : Int) : F_ Tryd.prog L_len Tryd.f51 [] [] 99 [AV.val (Value.int IntKind.i64 n_), AV.val (Value.int IntKind.i64 most_)] noMem = some (.ret (s_header_within n_ most_) { bl := [], nx := 99 } true) := by kernel_rfl
def e_header_within : Spec := fun _ args => match args with
  | [.val (.int .i64 n_), .val (.int .i64 most_)] => some (s_header_within n_ most_, none, [])
  | _ => none
theorem ok_header_within : SpecOk Tryd.prog 51 e_header_within := fun m args v mo bs h hb => by
  unfold e_header_within at h
  split at h
  · cases h
    exact pure_fn (c := bodyOf Tryd.f51) hE_len mixedP (fun xs w => Tryd.call51 xs w) Tryd.func51 rfl (t_header_within _ _) rfl rfl
  · cases h
def L_header_within : List (FuncId × Spec) := (51, e_header_within) :: L_len
theorem hE_header_within : ESound Tryd.prog (envOf L_header_within) := env_cons ok_header_within hE_len
def header_Check_0 (h_0 : Int) (h_1 : Int) (h_2 : Int) (h_3 : Int) (h_4 : Bool) : Int := bif bif !header_within_0 h_0 4095 then true else !header_within_0 h_1 4095 then 20 else bif !header_within_0 h_2 31 then 21 else bif !header_within_0 h_3 7 then 2 else 0
def s_header_Check (h_0 : Int) (h_1 : Int) (h_2 : Int) (h_3 : Int) (h_4 : Bool) : AV := AV.val (Value.int IntKind.i64 (header_Check_0 h_0 h_1 h_2 h_3 h_4))
theorem t_header_Check (h_0 : Int) (h_1 : Int) (h_2 : Int) (h_3 : Int) (h_4 : Bool) : F_ Tryd.prog L_header_within Tryd.f31 [] [] 99 [AV.agg [AV.val (Value.int IntKind.i64 h_0), AV.val (Value.int IntKind.i64 h_1), AV.val (Value.int IntKind.i64 h_2), AV.val (Value.int IntKind.i64 h_3), AV.val (Value.bool h_4)]] noMem = some (.ret (s_header_Check h_0 h_1 h_2 h_3 h_4) { bl := [], nx := 99 } true) := by
  have h : F_ Tryd.prog L_header_within Tryd.f31 [] [] 99 [AV.agg [AV.val (Value.int IntKind.i64 h_0), AV.val (Value.int IntKind.i64 h_1), AV.val (Value.int IntKind.i64 h_2), AV.val (Value.int IntKind.i64 h_3), AV.val (Value.bool h_4)]] noMem = bif bif !header_within_0 h_0 4095 then true else !header_within_0 h_1 4095 then some (Fin_.ret (AV.val (Value.int IntKind.i64 20)) { bl := [], nx := 99 } true) else bif !header_within_0 h_2 31 then some (Fin_.ret (AV.val (Value.int IntKind.i64 21)) { bl := [], nx := 99 } true) else bif !header_within_0 h_3 7 then some (Fin_.ret (AV.val (Value.int IntKind.i64 2)) { bl := [], nx := 99 } true) else some (Fin_.ret (AV.val (Value.int IntKind.i64 0)) { bl := [], nx := 99 } true) := by kernel_rfl
  rw [h]
  clear h
  unfold s_header_Check header_Check_0
  generalize (bif !header_within_0 h_0 4095 then true else !header_within_0 h_1 4095) = b0_
  generalize (!header_within_0 h_3 7) = b1_
  generalize (!header_within_0 h_2 31) = b2_
  cases b0_
  ·
    cases b2_
    ·
      cases b1_
      ·
        rfl
      ·
        rfl
    ·
      rfl
  ·
    rfl
def e_header_Check : Spec := fun _ args => match args with
  | [.agg [.val (.int .i64 h_0), .val (.int .i64 h_1), .val (.int .i64 h_2), .val (.int .i64 h_3), .val (.bool h_4)]] => some (s_header_Check h_0 h_1 h_2 h_3 h_4, none, [])
  | _ => none
theorem ok_header_Check : SpecOk Tryd.prog 31 e_header_Check := fun m args v mo bs h hb => by
  unfold e_header_Check at h
  split at h
  · cases h
    exact pure_fn (c := bodyOf Tryd.f31) hE_header_within mixedP (fun xs w => Tryd.call31 xs w) Tryd.func31 rfl (t_header_Check _ _ _ _ _) rfl rfl
  · cases h
def L_header_Check : List (FuncId × Spec) := (31, e_header_Check) :: L_header_within
theorem hE_header_Check : ESound Tryd.prog (envOf L_header_Check) := env_cons ok_header_Check hE_header_within
def header_Words_0 (h_0 : Int) (h_1 : Int) (h_2 : Int) (h_3 : Int) (h_4 : Bool) : Int := IntKind.i64.wrap (IntKind.i64.wrap (1 + h_0) + h_1)
def s_header_Words (h_0 : Int) (h_1 : Int) (h_2 : Int) (h_3 : Int) (h_4 : Bool) : AV := AV.val (Value.int IntKind.i64 (header_Words_0 h_0 h_1 h_2 h_3 h_4))
theorem t_header_Words (h_0 : Int) (h_1 : Int) (h_2 : Int) (h_3 : Int) (h_4 : Bool) : F_ Tryd.prog L_header_Check Tryd.f34 [] [] 99 [AV.agg [AV.val (Value.int IntKind.i64 h_0), AV.val (Value.int IntKind.i64 h_1), AV.val (Value.int IntKind.i64 h_2), AV.val (Value.int IntKind.i64 h_3), AV.val (Value.bool h_4)]] noMem = some (.ret (s_header_Words h_0 h_1 h_2 h_3 h_4) { bl := [], nx := 99 } true) := by kernel_rfl
def e_header_Words : Spec := fun _ args => match args with
  | [.agg [.val (.int .i64 h_0), .val (.int .i64 h_1), .val (.int .i64 h_2), .val (.int .i64 h_3), .val (.bool h_4)]] => some (s_header_Words h_0 h_1 h_2 h_3 h_4, none, [])
  | _ => none
theorem ok_header_Words : SpecOk Tryd.prog 34 e_header_Words := fun m args v mo bs h hb => by
  unfold e_header_Words at h
  split at h
  · cases h
    exact pure_fn (c := bodyOf Tryd.f34) hE_header_Check mixedP (fun xs w => Tryd.call34 xs w) Tryd.func34 rfl (t_header_Words _ _ _ _ _) rfl rfl
  · cases h
def L_header_Words : List (FuncId × Spec) := (34, e_header_Words) :: L_header_Check
theorem hE_header_Words : ESound Tryd.prog (envOf L_header_Words) := env_cons ok_header_Words hE_header_Check
def shape_Right_0 (s_0 : Int) (s_1 : Int) : Bool := header_Check_0 s_0 s_1 0 0 false == 0
def s_shape_Right (s_0 : Int) (s_1 : Int) : AV := AV.val (Value.bool (shape_Right_0 s_0 s_1))
theorem t_shape_Right (s_0 : Int) (s_1 : Int) : F_ Tryd.prog L_header_Words Tryd.f79 [] [] 99 [AV.agg [AV.val (Value.int IntKind.i64 s_0), AV.val (Value.int IntKind.i64 s_1)]] noMem = some (.ret (s_shape_Right s_0 s_1) { bl := [], nx := 99 } true) := by kernel_rfl
def e_shape_Right : Spec := fun _ args => match args with
  | [.agg [.val (.int .i64 s_0), .val (.int .i64 s_1)]] => some (s_shape_Right s_0 s_1, none, [])
  | _ => none
theorem ok_shape_Right : SpecOk Tryd.prog 79 e_shape_Right := fun m args v mo bs h hb => by
  unfold e_shape_Right at h
  split at h
  · cases h
    exact pure_fn (c := bodyOf Tryd.f79) hE_header_Words mixedP (fun xs w => Tryd.call79 xs w) Tryd.func79 rfl (t_shape_Right _ _) rfl rfl
  · cases h
def L_shape_Right : List (FuncId × Spec) := (79, e_shape_Right) :: L_header_Words
theorem hE_shape_Right : ESound Tryd.prog (envOf L_shape_Right) := env_cons ok_shape_Right hE_header_Words
def shape_Words_0 (s_0 : Int) (s_1 : Int) : Int := bif !shape_Right_0 s_0 s_1 then 0 else header_Words_0 s_0 s_1 0 0 false
def s_shape_Words (s_0 : Int) (s_1 : Int) : AV := AV.val (Value.int IntKind.i64 (shape_Words_0 s_0 s_1))
theorem t_shape_Words (s_0 : Int) (s_1 : Int) : F_ Tryd.prog L_shape_Right Tryd.f71 [] [] 99 [AV.agg [AV.val (Value.int IntKind.i64 s_0), AV.val (Value.int IntKind.i64 s_1)]] noMem = some (.ret (s_shape_Words s_0 s_1) { bl := [], nx := 99 } true) := by
  have h : F_ Tryd.prog L_shape_Right Tryd.f71 [] [] 99 [AV.agg [AV.val (Value.int IntKind.i64 s_0), AV.val (Value.int IntKind.i64 s_1)]] noMem = bif !shape_Right_0 s_0 s_1 then some (Fin_.ret (AV.val (Value.int IntKind.i64 0)) { bl := [], nx := 99 } true) else some (Fin_.ret (AV.val (Value.int IntKind.i64 (header_Words_0 s_0 s_1 0 0 false))) { bl := [], nx := 99 } true) := by kernel_rfl
  rw [h]
  clear h
  unfold s_shape_Words shape_Words_0
  generalize (!shape_Right_0 s_0 s_1) = b0_
  cases b0_
  ·
    rfl
  ·
    rfl
def e_shape_Words : Spec := fun _ args => match args with
  | [.agg [.val (.int .i64 s_0), .val (.int .i64 s_1)]] => some (s_shape_Words s_0 s_1, none, [])
  | _ => none
theorem ok_shape_Words : SpecOk Tryd.prog 71 e_shape_Words := fun m args v mo bs h hb => by
  unfold e_shape_Words at h
  split at h
  · cases h
    exact pure_fn (c := bodyOf Tryd.f71) hE_shape_Right mixedP (fun xs w => Tryd.call71 xs w) Tryd.func71 rfl (t_shape_Words _ _) rfl rfl
  · cases h
def L_shape_Words : List (FuncId × Spec) := (71, e_shape_Words) :: L_shape_Right
theorem hE_shape_Words : ESound Tryd.prog (envOf L_shape_Words) := env_cons ok_shape_Words hE_shape_Right
def class_Of_0 (words_ : Int) : Int := bif decide (words_ ≤ 1) then 0 else min (Int.ofNat (Lib.bitLen (IntKind.u64.wrap (IntKind.i64.wrap (words_ - 1))).toNat)) 13
def s_class_Of (words_ : Int) : AV := AV.val (Value.int IntKind.i64 (class_Of_0 words_))
def c_class_Of (words_ : Int) : Bool := bif decide (words_ ≤ 1) then true else bif decide (0 ≤ IntKind.u64.wrap (IntKind.i64.wrap (words_ - 1))) then bif decide (IntKind.u64.wrap (IntKind.i64.wrap (words_ - 1)) ≤ 18446744073709551615) then true else false else false
theorem t_class_Of (words_ : Int) : c_class_Of words_ = true → F_ Tryd.prog L_shape_Words Tryd.f70 [] [] 99 [AV.val (Value.int IntKind.i64 words_)] noMem = some (.ret (s_class_Of words_) { bl := [], nx := 99 } true) := by
  have h : F_ Tryd.prog L_shape_Words Tryd.f70 [] [] 99 [AV.val (Value.int IntKind.i64 words_)] noMem = bif decide (words_ ≤ 1) then some (Fin_.ret (AV.val (Value.int IntKind.i64 0)) { bl := [], nx := 99 } true) else some (Fin_.ret (AV.val (Value.int IntKind.i64 (min (Int.ofNat (Lib.bitLen (IntKind.u64.wrap (IntKind.i64.wrap (words_ - 1))).toNat)) 13))) { bl := [], nx := 99 } (bif decide (0 ≤ IntKind.u64.wrap (IntKind.i64.wrap (words_ - 1))) then bif decide (IntKind.u64.wrap (IntKind.i64.wrap (words_ - 1)) ≤ 18446744073709551615) then true else false else false)) := by kernel_rfl
  rw [h]
  clear h
  unfold s_class_Of class_Of_0 c_class_Of
  generalize (decide (words_ ≤ 1)) = b0_
  cases b0_
  ·
    first | rfl | (intro h_; cases h_; done) | (intro _; rfl) | (intro h_; simp only [cond_true, cond_false] at h_ ⊢; rw [h_])
  ·
    first | rfl | (intro h_; cases h_; done) | (intro _; rfl) | (intro h_; simp only [cond_true, cond_false] at h_ ⊢; rw [h_])
def e_class_Of : Spec := fun _ args => match args with
  | [.val (.int .i64 words_)] => some (s_class_Of words_, none, [c_class_Of words_])
  | _ => none
theorem ok_class_Of : SpecOk Tryd.prog 70 e_class_Of := fun m args v mo bs h hb => by
  unfold e_class_Of at h
  split at h
  · cases h
    exact pure_fn (c := bodyOf Tryd.f70) hE_shape_Words mixedP (fun xs w => Tryd.call70 xs w) Tryd.func70 rfl (t_class_Of _ (by simpa using hb)) rfl rfl
  · cases h
def L_class_Of : List (FuncId × Spec) := (70, e_class_Of) :: L_shape_Words
theorem hE_class_Of : ESound Tryd.prog (envOf L_class_Of) := env_cons ok_class_Of hE_shape_Words
def shape_Class_0 (s_0 : Int) (s_1 : Int) : Int := class_Of_0 (shape_Words_0 s_0 s_1)
def s_shape_Class (s_0 : Int) (s_1 : Int) : AV := AV.val (Value.int IntKind.i64 (shape_Class_0 s_0 s_1))
def c_shape_Class (s_0 : Int) (s_1 : Int) : Bool := bif c_class_Of (shape_Words_0 s_0 s_1) then true else false
theorem t_shape_Class (s_0 : Int) (s_1 : Int) : c_shape_Class s_0 s_1 = true → F_ Tryd.prog L_class_Of Tryd.f52 [] [] 99 [AV.agg [AV.val (Value.int IntKind.i64 s_0), AV.val (Value.int IntKind.i64 s_1)]] noMem = some (.ret (s_shape_Class s_0 s_1) { bl := [], nx := 99 } true) := by
  intro h_
  have h : F_ Tryd.prog L_class_Of Tryd.f52 [] [] 99 [AV.agg [AV.val (Value.int IntKind.i64 s_0), AV.val (Value.int IntKind.i64 s_1)]] noMem = some (.ret (s_shape_Class s_0 s_1) { bl := [], nx := 99 } (c_shape_Class s_0 s_1)) := by kernel_rfl
  rw [h, h_]
def e_shape_Class : Spec := fun _ args => match args with
  | [.agg [.val (.int .i64 s_0), .val (.int .i64 s_1)]] => some (s_shape_Class s_0 s_1, none, [c_shape_Class s_0 s_1])
  | _ => none
theorem ok_shape_Class : SpecOk Tryd.prog 52 e_shape_Class := fun m args v mo bs h hb => by
  unfold e_shape_Class at h
  split at h
  · cases h
    exact pure_fn (c := bodyOf Tryd.f52) hE_class_Of mixedP (fun xs w => Tryd.call52 xs w) Tryd.func52 rfl (t_shape_Class _ _ (by simpa using hb)) rfl rfl
  · cases h
def L_shape_Class : List (FuncId × Spec) := (52, e_shape_Class) :: L_class_Of
theorem hE_shape_Class : ESound Tryd.prog (envOf L_shape_Class) := env_cons ok_shape_Class hE_class_Of
def haymowref12_Check_0 (h_0 : Int) (h_1 : Int) (h_2 : Int) (h_3 : Int) (h_4 : Bool) : Int := bif bif bif bif decide (h_0 < 0) then true else decide (4095 < h_0) then true else decide (h_1 < 0) then true else decide (4095 < h_1) then 20 else bif bif decide (h_2 < 0) then true else decide (31 < h_2) then 21 else bif bif decide (h_3 < 0) then true else decide (7 < h_3) then 2 else 0
def s_haymowref12_Check (h_0 : Int) (h_1 : Int) (h_2 : Int) (h_3 : Int) (h_4 : Bool) : AV := AV.val (Value.int IntKind.i64 (haymowref12_Check_0 h_0 h_1 h_2 h_3 h_4))
theorem t_haymowref12_Check (h_0 : Int) (h_1 : Int) (h_2 : Int) (h_3 : Int) (h_4 : Bool) : F_ Tryd.prog L_shape_Class Tryd.f36 [] [] 99 [AV.agg [AV.val (Value.int IntKind.i64 h_0), AV.val (Value.int IntKind.i64 h_1), AV.val (Value.int IntKind.i64 h_2), AV.val (Value.int IntKind.i64 h_3), AV.val (Value.bool h_4)]] noMem = some (.ret (s_haymowref12_Check h_0 h_1 h_2 h_3 h_4) { bl := [], nx := 99 } true) := by
  have h : F_ Tryd.prog L_shape_Class Tryd.f36 [] [] 99 [AV.agg [AV.val (Value.int IntKind.i64 h_0), AV.val (Value.int IntKind.i64 h_1), AV.val (Value.int IntKind.i64 h_2), AV.val (Value.int IntKind.i64 h_3), AV.val (Value.bool h_4)]] noMem = bif bif bif bif decide (h_0 < 0) then true else decide (4095 < h_0) then true else decide (h_1 < 0) then true else decide (4095 < h_1) then some (Fin_.ret (AV.val (Value.int IntKind.i64 20)) { bl := [], nx := 99 } true) else bif bif decide (h_2 < 0) then true else decide (31 < h_2) then some (Fin_.ret (AV.val (Value.int IntKind.i64 21)) { bl := [], nx := 99 } true) else bif bif decide (h_3 < 0) then true else decide (7 < h_3) then some (Fin_.ret (AV.val (Value.int IntKind.i64 2)) { bl := [], nx := 99 } true) else some (Fin_.ret (AV.val (Value.int IntKind.i64 0)) { bl := [], nx := 99 } true) := by kernel_rfl
  rw [h]
  clear h
  unfold s_haymowref12_Check haymowref12_Check_0
  generalize (bif bif bif decide (h_0 < 0) then true else decide (4095 < h_0) then true else decide (h_1 < 0) then true else decide (4095 < h_1)) = b0_
  generalize (bif decide (h_3 < 0) then true else decide (7 < h_3)) = b1_
  generalize (bif decide (h_2 < 0) then true else decide (31 < h_2)) = b2_
  cases b0_
  ·
    cases b2_
    ·
      cases b1_
      ·
        rfl
      ·
        rfl
    ·
      rfl
  ·
    rfl
def e_haymowref12_Check : Spec := fun _ args => match args with
  | [.agg [.val (.int .i64 h_0), .val (.int .i64 h_1), .val (.int .i64 h_2), .val (.int .i64 h_3), .val (.bool h_4)]] => some (s_haymowref12_Check h_0 h_1 h_2 h_3 h_4, none, [])
  | _ => none
theorem ok_haymowref12_Check : SpecOk Tryd.prog 36 e_haymowref12_Check := fun m args v mo bs h hb => by
  unfold e_haymowref12_Check at h
  split at h
  · cases h
    exact pure_fn (c := bodyOf Tryd.f36) hE_shape_Class mixedP (fun xs w => Tryd.call36 xs w) Tryd.func36 rfl (t_haymowref12_Check _ _ _ _ _) rfl rfl
  · cases h
def L_haymowref12_Check : List (FuncId × Spec) := (36, e_haymowref12_Check) :: L_shape_Class
theorem hE_haymowref12_Check : ESound Tryd.prog (envOf L_haymowref12_Check) := env_cons ok_haymowref12_Check hE_shape_Class
def haymowref13_Right_0 (s_0 : Int) (s_1 : Int) : Bool := bif bif bif decide (0 ≤ s_0) then decide (s_0 < 4096) else false then decide (0 ≤ s_1) else false then decide (s_1 < 4096) else false
def s_haymowref13_Right (s_0 : Int) (s_1 : Int) : AV := AV.val (Value.bool (haymowref13_Right_0 s_0 s_1))
theorem t_haymowref13_Right (s_0 : Int) (s_1 : Int) : F_ Tryd.prog L_haymowref12_Check Tryd.f53 [] [] 99 [AV.agg [AV.val (Value.int IntKind.i64 s_0), AV.val (Value.int IntKind.i64 s_1)]] noMem = some (.ret (s_haymowref13_Right s_0 s_1) { bl := [], nx := 99 } true) := by kernel_rfl
def e_haymowref13_Right : Spec := fun _ args => match args with
  | [.agg [.val (.int .i64 s_0), .val (.int .i64 s_1)]] => some (s_haymowref13_Right s_0 s_1, none, [])
  | _ => none
theorem ok_haymowref13_Right : SpecOk Tryd.prog 53 e_haymowref13_Right := fun m args v mo bs h hb => by
  unfold e_haymowref13_Right at h
  split at h
  · cases h
    exact pure_fn (c := bodyOf Tryd.f53) hE_haymowref12_Check mixedP (fun xs w => Tryd.call53 xs w) Tryd.func53 rfl (t_haymowref13_Right _ _) rfl rfl
  · cases h
def L_haymowref13_Right : List (FuncId × Spec) := (53, e_haymowref13_Right) :: L_haymowref12_Check
theorem hE_haymowref13_Right : ESound Tryd.prog (envOf L_haymowref13_Right) := env_cons ok_haymowref13_Right hE_haymowref12_Check
def haymowref13_Words_0 (s_0 : Int) (s_1 : Int) : Int := bif !haymowref13_Right_0 s_0 s_1 then 0 else IntKind.i64.wrap (IntKind.i64.wrap (1 + s_0) + s_1)
def s_haymowref13_Words (s_0 : Int) (s_1 : Int) : AV := AV.val (Value.int IntKind.i64 (haymowref13_Words_0 s_0 s_1))
theorem t_haymowref13_Words (s_0 : Int) (s_1 : Int) : F_ Tryd.prog L_haymowref13_Right Tryd.f35 [] [] 99 [AV.agg [AV.val (Value.int IntKind.i64 s_0), AV.val (Value.int IntKind.i64 s_1)]] noMem = some (.ret (s_haymowref13_Words s_0 s_1) { bl := [], nx := 99 } true) := by
  have h : F_ Tryd.prog L_haymowref13_Right Tryd.f35 [] [] 99 [AV.agg [AV.val (Value.int IntKind.i64 s_0), AV.val (Value.int IntKind.i64 s_1)]] noMem = bif !haymowref13_Right_0 s_0 s_1 then some (Fin_.ret (AV.val (Value.int IntKind.i64 0)) { bl := [], nx := 99 } true) else some (Fin_.ret (AV.val (Value.int IntKind.i64 (IntKind.i64.wrap (IntKind.i64.wrap (1 + s_0) + s_1)))) { bl := [], nx := 99 } true) := by kernel_rfl
  rw [h]
  clear h
  unfold s_haymowref13_Words haymowref13_Words_0
  generalize (!haymowref13_Right_0 s_0 s_1) = b0_
  cases b0_
  ·
    rfl
  ·
    rfl
def e_haymowref13_Words : Spec := fun _ args => match args with
  | [.agg [.val (.int .i64 s_0), .val (.int .i64 s_1)]] => some (s_haymowref13_Words s_0 s_1, none, [])
  | _ => none
theorem ok_haymowref13_Words : SpecOk Tryd.prog 35 e_haymowref13_Words := fun m args v mo bs h hb => by
  unfold e_haymowref13_Words at h
  split at h
  · cases h
    exact pure_fn (c := bodyOf Tryd.f35) hE_haymowref13_Right mixedP (fun xs w => Tryd.call35 xs w) Tryd.func35 rfl (t_haymowref13_Words _ _) rfl rfl
  · cases h
def L_haymowref13_Words : List (FuncId × Spec) := (35, e_haymowref13_Words) :: L_haymowref13_Right
theorem hE_haymowref13_Words : ESound Tryd.prog (envOf L_haymowref13_Words) := env_cons ok_haymowref13_Words hE_haymowref13_Right
def haymowref04_Of_0 (words_ : Int) : Int := bif decide (1 < words_) then bif decide (2 < words_) then bif decide (4 < words_) then bif decide (8 < words_) then bif decide (16 < words_) then bif decide (32 < words_) then bif decide (64 < words_) then bif decide (128 < words_) then bif decide (256 < words_) then bif decide (512 < words_) then bif decide (1024 < words_) then bif decide (2048 < words_) then bif decide (4096 < words_) then 13 else 12 else 11 else 10 else 9 else 8 else 7 else 6 else 5 else 4 else 3 else 2 else 1 else 0
def s_haymowref04_Of (words_ : Int) : AV := AV.val (Value.int IntKind.i64 (haymowref04_Of_0 words_))
theorem t_haymowref04_Of (words_ : Int) : F_ Tryd.prog L_haymowref13_Words Tryd.f37 [] [] 99 [AV.val (Value.int IntKind.i64 words_)] noMem = some (.ret (s_haymowref04_Of words_) { bl := [], nx := 99 } true) := by
  have h : F_ Tryd.prog L_haymowref13_Words Tryd.f37 [] [] 99 [AV.val (Value.int IntKind.i64 words_)] noMem = bif decide (1 < words_) then bif decide (2 < words_) then bif decide (4 < words_) then bif decide (8 < words_) then bif decide (16 < words_) then bif decide (32 < words_) then bif decide (64 < words_) then bif decide (128 < words_) then bif decide (256 < words_) then bif decide (512 < words_) then bif decide (1024 < words_) then bif decide (2048 < words_) then bif decide (4096 < words_) then some (Fin_.ret (AV.val (Value.int IntKind.i64 13)) { bl := [], nx := 99 } true) else some (Fin_.ret (AV.val (Value.int IntKind.i64 12)) { bl := [], nx := 99 } true) else some (Fin_.ret (AV.val (Value.int IntKind.i64 11)) { bl := [], nx := 99 } true) else some (Fin_.ret (AV.val (Value.int IntKind.i64 10)) { bl := [], nx := 99 } true) else some (Fin_.ret (AV.val (Value.int IntKind.i64 9)) { bl := [], nx := 99 } true) else some (Fin_.ret (AV.val (Value.int IntKind.i64 8)) { bl := [], nx := 99 } true) else some (Fin_.ret (AV.val (Value.int IntKind.i64 7)) { bl := [], nx := 99 } true) else some (Fin_.ret (AV.val (Value.int IntKind.i64 6)) { bl := [], nx := 99 } true) else some (Fin_.ret (AV.val (Value.int IntKind.i64 5)) { bl := [], nx := 99 } true) else some (Fin_.ret (AV.val (Value.int IntKind.i64 4)) { bl := [], nx := 99 } true) else some (Fin_.ret (AV.val (Value.int IntKind.i64 3)) { bl := [], nx := 99 } true) else some (Fin_.ret (AV.val (Value.int IntKind.i64 2)) { bl := [], nx := 99 } true) else some (Fin_.ret (AV.val (Value.int IntKind.i64 1)) { bl := [], nx := 99 } true) else some (Fin_.ret (AV.val (Value.int IntKind.i64 0)) { bl := [], nx := 99 } true) := by kernel_rfl
  rw [h]
  clear h
  unfold s_haymowref04_Of haymowref04_Of_0
  generalize (decide (4096 < words_)) = b0_
  generalize (decide (1 < words_)) = b1_
  generalize (decide (2 < words_)) = b2_
  generalize (decide (4 < words_)) = b3_
  generalize (decide (8 < words_)) = b4_
  generalize (decide (16 < words_)) = b5_
  generalize (decide (32 < words_)) = b6_
  generalize (decide (64 < words_)) = b7_
  generalize (decide (128 < words_)) = b8_
  generalize (decide (256 < words_)) = b9_
  generalize (decide (512 < words_)) = b10_
  generalize (decide (1024 < words_)) = b11_
  generalize (decide (2048 < words_)) = b12_
  cases b1_
  ·
    rfl
  ·
    cases b2_
    ·
      rfl
    ·
      cases b3_
      ·
        rfl
      ·
        cases b4_
        ·
          rfl
        ·
          cases b5_
          ·
            rfl
          ·
            cases b6_
            ·
              rfl
            ·
              cases b7_
              ·
                rfl
              ·
                cases b8_
                ·
                  rfl
                ·
                  cases b9_
                  ·
                    rfl
                  ·
                    cases b10_
                    ·
                      rfl
                    ·
                      cases b11_
                      ·
                        rfl
                      ·
                        cases b12_
                        ·
                          rfl
                        ·
                          cases b0_
                          ·
                            rfl
                          ·
                            rfl
def e_haymowref04_Of : Spec := fun _ args => match args with
  | [.val (.int .i64 words_)] => some (s_haymowref04_Of words_, none, [])
  | _ => none
theorem ok_haymowref04_Of : SpecOk Tryd.prog 37 e_haymowref04_Of := fun m args v mo bs h hb => by
  unfold e_haymowref04_Of at h
  split at h
  · cases h
    exact pure_fn (c := bodyOf Tryd.f37) hE_haymowref13_Words mixedP (fun xs w => Tryd.call37 xs w) Tryd.func37 rfl (t_haymowref04_Of _) rfl rfl
  · cases h
def L_haymowref04_Of : List (FuncId × Spec) := (37, e_haymowref04_Of) :: L_haymowref13_Words
theorem hE_haymowref04_Of : ESound Tryd.prog (envOf L_haymowref04_Of) := env_cons ok_haymowref04_Of hE_haymowref13_Words
def census_Sum_plus_0 (s_0 : Int) (s_1 : Int) (o_0 : Int) (o_1 : Int) : Int := IntKind.i64.wrap (s_0 + o_0)
def census_Sum_plus_1 (s_0 : Int) (s_1 : Int) (o_0 : Int) (o_1 : Int) : Int := IntKind.i64.wrap (s_1 + o_1)
def s_census_Sum_plus (s_0 : Int) (s_1 : Int) (o_0 : Int) (o_1 : Int) : AV := AV.agg [AV.val (Value.int IntKind.i64 (census_Sum_plus_0 s_0 s_1 o_0 o_1)), AV.val (Value.int IntKind.i64 (census_Sum_plus_1 s_0 s_1 o_0 o_1))]
theorem t_census_Sum_plus (s_0 : Int) (s_1 : Int) (o_0 : Int) (o_1 : Int) : F_ Tryd.prog L_haymowref04_Of Tryd.f33 [] [] 99 [AV.agg [AV.val (Value.int IntKind.i64 s_0), AV.val (Value.int IntKind.i64 s_1)], AV.agg [AV.val (Value.int IntKind.i64 o_0), AV.val (Value.int IntKind.i64 o_1)]] noMem = some (.ret (s_census_Sum_plus s_0 s_1 o_0 o_1) { bl := [], nx := 99 } true) := by kernel_rfl
def e_census_Sum_plus : Spec := fun _ args => match args with
  | [.agg [.val (.int .i64 s_0), .val (.int .i64 s_1)], .agg [.val (.int .i64 o_0), .val (.int .i64 o_1)]] => some (s_census_Sum_plus s_0 s_1 o_0 o_1, none, [])
  | _ => none
theorem ok_census_Sum_plus : SpecOk Tryd.prog 33 e_census_Sum_plus := fun m args v mo bs h hb => by
  unfold e_census_Sum_plus at h
  split at h
  · cases h
    exact pure_fn (c := bodyOf Tryd.f33) hE_haymowref04_Of mixedP (fun xs w => Tryd.call33 xs w) Tryd.func33 rfl (t_census_Sum_plus _ _ _ _) rfl rfl
  · cases h
def L_census_Sum_plus : List (FuncId × Spec) := (33, e_census_Sum_plus) :: L_haymowref04_Of
theorem hE_census_Sum_plus : ESound Tryd.prog (envOf L_census_Sum_plus) := env_cons ok_census_Sum_plus hE_haymowref04_Of
end Go.Proofs.YtbjealobiblabaaDoor

namespace Go.Proofs.YtbjealobiblabaaDoor
open Go Go.RowKit
def census_Of_0 (h_0 : Int) (h_1 : Int) (h_2 : Int) (h_3 : Int) (h_4 : Bool) : Int := shape_Class_0 h_0 h_1
def s_census_Of (h_0 : Int) (h_1 : Int) (h_2 : Int) (h_3 : Int) (h_4 : Bool) : AV := AV.agg [AV.val (Value.int IntKind.i64 h_2), AV.val (Value.int IntKind.i64 (census_Of_0 h_0 h_1 h_2 h_3 h_4)), AV.val (Value.int IntKind.i64 h_3)]
def c_census_Of (h_0 : Int) (h_1 : Int) (h_2 : Int) (h_3 : Int) (h_4 : Bool) : Bool := bif c_shape_Class h_0 h_1 then true else false
theorem t_census_Of (h_0 : Int) (h_1 : Int) (h_2 : Int) (h_3 : Int) (h_4 : Bool) : c_census_Of h_0 h_1 h_2 h_3 h_4 = true → F_ Tryd.prog L_census_Sum_plus Tryd.f32 [] [] 99 [AV.agg [AV.val (Value.int IntKind.i64 h_0), AV.val (Value.int IntKind.i64 h_1), AV.val (Value.int IntKind.i64 h_2), AV.val (Value.int IntKind.i64 h_3), AV.val (Value.bool h_4)]] noMem = some (.ret (s_census_Of h_0 h_1 h_2 h_3 h_4) { bl := [], nx := 99 } true) := by
  intro h_
  have h : F_ Tryd.prog L_census_Sum_plus Tryd.f32 [] [] 99 [AV.agg [AV.val (Value.int IntKind.i64 h_0), AV.val (Value.int IntKind.i64 h_1), AV.val (Value.int IntKind.i64 h_2), AV.val (Value.int IntKind.i64 h_3), AV.val (Value.bool h_4)]] noMem = some (.ret (s_census_Of h_0 h_1 h_2 h_3 h_4) { bl := [], nx := 99 } (c_census_Of h_0 h_1 h_2 h_3 h_4)) := by kernel_rfl
  rw [h, h_]
def e_census_Of : Spec := fun _ args => match args with
  | [.agg [.val (.int .i64 h_0), .val (.int .i64 h_1), .val (.int .i64 h_2), .val (.int .i64 h_3), .val (.bool h_4)]] => some (s_census_Of h_0 h_1 h_2 h_3 h_4, none, [c_census_Of h_0 h_1 h_2 h_3 h_4])
  | _ => none
theorem ok_census_Of : SpecOk Tryd.prog 32 e_census_Of := fun m args v mo bs h hb => by
  unfold e_census_Of at h
  split at h
  · cases h
    exact pure_fn (c := bodyOf Tryd.f32) hE_census_Sum_plus mixedP (fun xs w => Tryd.call32 xs w) Tryd.func32 rfl (t_census_Of _ _ _ _ _ (by simpa using hb)) rfl rfl
  · cases h
def L_census_Of : List (FuncId × Spec) := (32, e_census_Of) :: L_census_Sum_plus
theorem hE_census_Of : ESound Tryd.prog (envOf L_census_Of) := env_cons ok_census_Of hE_census_Sum_plus
end Go.Proofs.YtbjealobiblabaaDoor

namespace Go.Proofs.YtbjealobiblabaaDoor
open Go Go.RowKit
abbrev iz (i : Int) : Nat := addN 0 (mulN i.toNat 1)
theorem iz_nat (i : Nat) : iz (i : Int) = i := by unfold iz; rw [addN_eq, mulN_eq, Int.toNat_natCast]; omega
end Go.Proofs.YtbjealobiblabaaDoor

namespace Go.Proofs.YtbjealobiblabaaDoor
open Go Go.RowKit
theorem wru (x : Int) (h : 0 ≤ x) (h' : x ≤ 18446744073709551615) : IntKind.u64.wrap x = x := IntWalk.u64_in x ⟨h, h'⟩
theorem bl_gt (x k : Nat) (hx : x < 18446744073709551616) : k < Lib.bitLen x ↔ 2 ^ k ≤ x := by
  by_cases h0 : x = 0
  · subst h0
    have h1 : Lib.bitLen 0 = 0 := Lib.bitLenAux_zero 64
    have h2 : 0 < 2 ^ k := Nat.pow_pos (by omega)
    omega
  · obtain ⟨h1, h2, h3⟩ := Lib.bitLenAux_bounds 64 x (by omega) h0
    change 1 ≤ Lib.bitLen x at h1
    change 2 ^ (Lib.bitLen x - 1) ≤ x at h2
    change x < 2 ^ Lib.bitLen x at h3
    constructor
    · intro h
      exact Nat.le_trans (Nat.pow_le_pow_right (by omega) (by omega)) h2
    · intro h
      refine Nat.lt_of_not_le fun hc => ?_
      have := Nat.pow_le_pow_right (show 0 < 2 by omega) hc
      omega
theorem class_of (n : Int) (h : -9223372036854775808 ≤ n) (h' : n ≤ 9223372036854775807) : class_Of_0 n = haymowref04_Of_0 n ∧ c_class_Of n = true := by
  unfold class_Of_0 haymowref04_Of_0 c_class_Of
  by_cases c : n ≤ 1
  · rw [decide_eq_true c, decide_eq_false (show ¬ 1 < n by omega)]
    exact ⟨rfl, rfl⟩
  · rw [decide_eq_false c, wr64 (n - 1) (by omega) (by omega), wru (n - 1) (by omega) (by omega), decide_eq_true (show 0 ≤ n - 1 by omega), decide_eq_true (show n - 1 ≤ 18446744073709551615 by omega)]
    refine ⟨?_, rfl⟩
    obtain ⟨x, hx⟩ : ∃ x : Nat, n = x + 1 := ⟨(n - 1).toNat, by omega⟩
    subst hx
    have e : ((x : Int) + 1 - 1).toNat = x := by omega
    rw [e]
    have k0 := bl_gt x 0 (by omega)
    have k1 := bl_gt x 1 (by omega)
    have k2 := bl_gt x 2 (by omega)
    have k3 := bl_gt x 3 (by omega)
    have k4 := bl_gt x 4 (by omega)
    have k5 := bl_gt x 5 (by omega)
    have k6 := bl_gt x 6 (by omega)
    have k7 := bl_gt x 7 (by omega)
    have k8 := bl_gt x 8 (by omega)
    have k9 := bl_gt x 9 (by omega)
    have k10 := bl_gt x 10 (by omega)
    have k11 := bl_gt x 11 (by omega)
    have k12 := bl_gt x 12 (by omega)
    generalize Lib.bitLen x = L at *
    rw [cond_false]
    simp only [Bool.cond_eq_ite, decide_eq_true_eq]
    simp only [Int.ofNat_eq_natCast]
    simp only [Nat.reducePow] at *
    (repeat' split) <;> omega
end Go.Proofs.YtbjealobiblabaaDoor

namespace Go.Proofs.YtbjealobiblabaaDoor
open Go Go.RowKit
set_option maxRecDepth 100000
/-- A header that may be. -/
def OkH (p r s a : Int) : Prop := (0 ≤ p ∧ p ≤ 4095) ∧ (0 ≤ r ∧ r ≤ 4095) ∧ (0 ≤ s ∧ s ≤ 31) ∧ (0 ≤ a ∧ a ≤ 7)
instance (p r s a : Int) : Decidable (OkH p r s a) := inferInstanceAs (Decidable (_ ∧ _))
theorem in_ok {x m : Int} : header_within_0 x m = decide (0 ≤ x ∧ x ≤ m) := by
  unfold header_within_0
  by_cases h : 0 ≤ x
  · simp [h]
  · simp [h]
theorem chk_ok (p r s a : Int) (g : Bool) : (header_Check_0 p r s a g != 0) = !decide (OkH p r s a) := by
  unfold header_Check_0 OkH
  simp only [in_ok]
  by_cases h1 : 0 ≤ p ∧ p ≤ 4095
  · by_cases h2 : 0 ≤ r ∧ r ≤ 4095
    · by_cases h3 : 0 ≤ s ∧ s ≤ 31
      · by_cases h4 : 0 ≤ a ∧ a ≤ 7
        · simp [h1, h2, h3, h4]
        · simp [h1, h2, h3, h4]
      · simp [h1, h2, h3]
    · simp [h1, h2]
  · simp [h1]
theorem ref_ok (p r s a : Int) (g : Bool) : (haymowref12_Check_0 p r s a g == 0) = decide (OkH p r s a) := by
  unfold haymowref12_Check_0 OkH
  simp only [Bool.cond_eq_ite]
  by_cases h1 : 0 ≤ p ∧ p ≤ 4095
  · by_cases h2 : 0 ≤ r ∧ r ≤ 4095
    · by_cases h3 : 0 ≤ s ∧ s ≤ 31
      · by_cases h4 : 0 ≤ a ∧ a ≤ 7
        · simp [h1, h2, h3, h4, show ¬ p < 0 by omega, show ¬ 4095 < p by omega, show ¬ r < 0 by omega, show ¬ 4095 < r by omega, show ¬ s < 0 by omega, show ¬ 31 < s by omega, show ¬ a < 0 by omega, show ¬ 7 < a by omega]
        · have : a < 0 ∨ 7 < a := by omega
          simp [h1, h2, h3, h4, show ¬ p < 0 by omega, show ¬ 4095 < p by omega, show ¬ r < 0 by omega, show ¬ 4095 < r by omega, show ¬ s < 0 by omega, show ¬ 31 < s by omega, this]
      · have : s < 0 ∨ 31 < s := by omega
        simp [h1, h2, h3, show ¬ p < 0 by omega, show ¬ 4095 < p by omega, show ¬ r < 0 by omega, show ¬ 4095 < r by omega, this]
    · have : r < 0 ∨ 4095 < r := by omega
      rcases this with h | h <;> simp [h1, h2, show ¬ p < 0 by omega, show ¬ 4095 < p by omega, h]
  · have : p < 0 ∨ 4095 < p := by omega
    rcases this with h | h <;> simp [h1, h]
/-- The class of a shape. -/
def cls (p r : Int) : Int := haymowref04_Of_0 (1 + p + r)
theorem ref_words {p r s a : Int} (h : OkH p r s a) : haymowref13_Words_0 p r = 1 + p + r := by
  obtain ⟨⟨h1, h2⟩, ⟨h3, h4⟩, _⟩ := h
  unfold haymowref13_Words_0 haymowref13_Right_0
  rw [decide_eq_true h1, decide_eq_true (show p < 4096 by omega), decide_eq_true h3, decide_eq_true (show r < 4096 by omega)]
  simp only [cond_true, Bool.not_true, cond_false]
  rw [wr64 (1 + p) (by omega) (by omega), wr64 _ (by omega) (by omega)]
theorem hd_words {p r s a : Int} {g : Bool} (h : OkH p r s a) (s' a' : Int) : header_Words_0 p r s' a' g = 1 + p + r := by
  obtain ⟨⟨h1, h2⟩, ⟨h3, h4⟩, _⟩ := h
  unfold header_Words_0
  rw [wr64 (1 + p) (by omega) (by omega), wr64 _ (by omega) (by omega)]
theorem sh_words {p r s a : Int} (h : OkH p r s a) : shape_Words_0 p r = 1 + p + r := by
  have h' : OkH p r 0 0 := ⟨h.1, h.2.1, ⟨by omega, by omega⟩, by omega, by omega⟩
  unfold shape_Words_0 shape_Right_0
  have := chk_ok p r 0 0 false
  rw [decide_eq_true h'] at this
  have e : (header_Check_0 p r 0 0 false == 0) = true := by simpa [bne] using this
  rw [e]
  exact hd_words (g := false) h 0 0
theorem of_cls {p r s a : Int} {g : Bool} (h : OkH p r s a) : census_Of_0 p r s a g = cls p r ∧ c_census_Of p r s a g = true := by
  have hw := sh_words h
  obtain ⟨h1, h2⟩ := class_of (1 + p + r) (by have := h.1; have := h.2.1; omega) (by have := h.1; have := h.2.1; omega)
  unfold census_Of_0 shape_Class_0 c_census_Of c_shape_Class
  rw [hw, h2]
  exact ⟨h1, rfl⟩
/-- So many more of a kind. -/
def addM (es : List KV) (k : List Int) (o w : Int) : List KV := putM es k [IntKind.i64.wrap (((lookM es k).getD [0, 0]).headD 0 + o), IntKind.i64.wrap (((lookM es k).getD [0, 0]).tail.headD 0 + w)]
/-- One object more, if it may be. -/
def addH (es : List KV) (p r s a : Int) : List KV := bif decide (OkH p r s a) then addM es [s, cls p r, a] 1 (1 + p + r) else es
theorem add_run (es : List KV) (p r s a : Int) (g : Bool) : F_ Tryd.prog L_census_Of Tryd.f18 [] [1] 99 [.ptr 0 1 0 0, .agg [vi p, vi r, vi s, vi a, vb g]] ⟨[(0, some ⟨false, false, .cells [.mp 1]⟩), (1, some ⟨true, false, .obj (.mpo 3 2 es)⟩)], 2⟩ =
    bif header_Check_0 p r s a g != 0 then some (.ret (.tup []) ⟨[(1, some ⟨true, false, .obj (.mpo 3 2 es)⟩)], 99⟩ true)
    else some (.ret (.tup []) ⟨[(1, some ⟨true, false, .obj (.mpo 3 2 (addM es [s, census_Of_0 p r s a g, a] 1 (header_Words_0 p r s a g)))⟩)], 99⟩ (conj [c_census_Of p r s a g, c_census_Of p r s a g, keysN 3 es, keysN 3 es])) := by kernel_rfl
theorem add_nil (p r s a : Int) (g : Bool) : F_ Tryd.prog L_census_Of Tryd.f18 [] [] 99 [.val (.pointer none), .agg [vi p, vi r, vi s, vi a, vb g]] noMem = some (.ret (.tup []) ⟨[], 99⟩ true) := by kernel_rfl
def e_add : Spec := fun m args => match args with
  | [.val (.pointer none), .agg [.val (.int .i64 _), .val (.int .i64 _), .val (.int .i64 _), .val (.int .i64 _), .val (.bool _)]] => some (.tup [], none, [])
  | [.ptr l 1 0 0, .agg [.val (.int .i64 p), .val (.int .i64 r), .val (.int .i64 s), .val (.int .i64 a), .val (.bool _)]] => match look m.bl l with
    | some ⟨_, _, .cells [.mp lm]⟩ => match look m.bl lm with
      | some ⟨true, _, .obj (.mpo 3 2 es)⟩ => some (.tup [], some ⟨upd m.bl lm (some ⟨true, false, .obj (.mpo 3 2 (addH es p r s a))⟩), m.nx⟩, [keysN 3 es])
      | _ => none
    | _ => none
  | _ => none
theorem add_goes (es : List KV) (p r s a : Int) (g : Bool) (h : keysN 3 es = true) : F_ Tryd.prog L_census_Of Tryd.f18 [] [1] 99 [.ptr 0 1 0 0, .agg [vi p, vi r, vi s, vi a, vb g]] ⟨[(0, some ⟨false, false, .cells [.mp 1]⟩), (1, some ⟨true, false, .obj (.mpo 3 2 es)⟩)], 2⟩ =
    some (.ret (.tup []) ⟨[(1, some ⟨true, false, .obj (.mpo 3 2 (addH es p r s a))⟩)], 99⟩ true) := by
  rw [add_run, chk_ok]
  unfold addH
  by_cases hh : OkH p r s a
  · rw [decide_eq_true hh, Bool.not_true, cond_false, cond_true, h, (of_cls hh).2, (of_cls hh).1, hd_words hh]
    rfl
  · rw [decide_eq_false hh]
    rfl
theorem ok_add : SpecOk Tryd.prog 18 e_add := fun m args v mo bs h hb => by
  unfold e_add at h
  split at h
  · cases h
    exact pure_fn (c := bodyOf Tryd.f18) hE_census_Of mixedP (fun xs w => Tryd.call18 xs w) Tryd.func18 rfl (add_nil _ _ _ _ _) rfl rfl
  · rename_i l p r s a g
    split at h <;> try cases h
    rename_i _ _ lm hl
    split at h <;> cases h
    rename_i _ _ es hlm
    have hb : keysN 3 es = true := by simpa using hb
    exact lift_mw (br := [.agg [vi p, vi r, vi s, vi a, vb g]]) hl hlm (fsound (c := bodyOf Tryd.f18) (fun xs w => Tryd.call18 xs w) Tryd.func18 rfl (F_ret hE_census_Of mixedP rfl rfl (add_goes es p r s a g hb))) rfl rfl
  · cases h
end Go.Proofs.YtbjealobiblabaaDoor

namespace Go.Proofs.YtbjealobiblabaaDoor
open Go Go.RowKit
-- Maps
theorem findM_shift (k : List Int) : ∀ (es : List KV) (i d : Nat), findM k es (i + d) = (findM k es i).map fun q => (q.1 + d, q.2)
  | [], _, _ => rfl
  | (a, u) :: es, i, d => by
    simp only [findM]
    by_cases h : k = a
    · rw [decide_eq_true h]; rfl
    · rw [decide_eq_false h]
      have := findM_shift k es (i + 1) d
      rw [show i + 1 + d = i + d + 1 by omega] at this
      exact this
theorem lookM_nil (k : List Int) : lookM [] k = none := rfl
theorem lookM_cons (a u k : List Int) (es : List KV) : lookM ((a, u) :: es) k = if k = a then some u else lookM es k := by
  unfold lookM
  simp only [findM]
  by_cases h : k = a
  · rw [decide_eq_true h, if_pos h]
  · rw [decide_eq_false h, if_neg h]
    have := findM_shift k es 0 1
    simp only [Nat.zero_add] at this ⊢
    rw [this]
    cases findM k es 0 <;> rfl
theorem putM_nil (k v : List Int) : putM [] k v = [(k, v)] := rfl
theorem putM_cons (a u k v : List Int) (es : List KV) : putM ((a, u) :: es) k v = if k = a then (k, v) :: es else (a, u) :: putM es k v := by
  unfold putM
  simp only [findM]
  by_cases h : k = a
  · rw [decide_eq_true h, if_pos h]; rfl
  · rw [decide_eq_false h, if_neg h]
    have := findM_shift k es 0 1
    simp only [Nat.zero_add] at this ⊢
    rw [this]
    cases findM k es 0 <;> rfl
theorem look_put (k v k' : List Int) : ∀ es : List KV, lookM (putM es k v) k' = if k' = k then some v else lookM es k'
  | [] => by rw [putM_nil, lookM_cons]
  | (a, u) :: es => by
    rw [putM_cons]
    by_cases h : k = a
    · rw [if_pos h, lookM_cons, lookM_cons]
      subst h
      by_cases h2 : k' = k
      · rw [if_pos h2, if_pos h2]
      · rw [if_neg h2, if_neg h2, if_neg h2]
    · rw [if_neg h, lookM_cons, lookM_cons, look_put k v k' es]
      by_cases h2 : k' = a
      · rw [if_pos h2, if_pos h2, if_neg (fun e => h (by rw [← e, h2]))]
      · rw [if_neg h2, if_neg h2]
theorem put_keys (k v : List Int) : ∀ es : List KV, (k ∈ es.map (·.1) ∧ (putM es k v).map (·.1) = es.map (·.1)) ∨ (k ∉ es.map (·.1) ∧ (putM es k v).map (·.1) = es.map (·.1) ++ [k])
  | [] => .inr ⟨by simp, rfl⟩
  | (a, u) :: es => by
    rw [putM_cons]
    by_cases h : k = a
    · rw [if_pos h]; subst h
      exact .inl ⟨by simp, rfl⟩
    · rw [if_neg h]
      rcases put_keys k v es with ⟨h1, h2⟩ | ⟨h1, h2⟩
      · exact .inl ⟨List.mem_cons_of_mem _ h1, by rw [List.map_cons, List.map_cons, h2]⟩
      · exact .inr ⟨by rw [List.map_cons, List.mem_cons]; exact fun e => e.elim h h1, by rw [List.map_cons, List.map_cons, h2]; rfl⟩
theorem KD_iff {l : List KV} : KD l ↔ (∀ k ∈ l.map (·.1), k.length = 3) ∧ (l.map (·.1)).Nodup := by
  unfold KD
  refine and_congr_left' ⟨fun h k hk => ?_, fun h e he => h _ (List.mem_map.2 ⟨e, he, rfl⟩)⟩
  obtain ⟨e, he, rfl⟩ := List.mem_map.1 hk
  exact h e he
theorem KD.put {es : List KV} (h : KD es) {k : List Int} (hk : k.length = 3) (v : List Int) : KD (putM es k v) := by
  rw [KD_iff] at *
  rcases put_keys k v es with ⟨h1, h2⟩ | ⟨h1, h2⟩
  · rw [h2]; exact h
  · rw [h2]
    refine ⟨fun k' hk' => ?_, ?_⟩
    · rcases List.mem_append.1 hk' with h3 | h3
      · exact h.1 k' h3
      · rw [List.mem_singleton.1 h3]; exact hk
    · rw [List.nodup_append]
      refine ⟨h.2, by simp, fun a ha b hb e => ?_⟩
      rw [List.mem_singleton.1 hb] at e
      exact h1 (e ▸ ha)
theorem put_len (es : List KV) (k v : List Int) : (putM es k v).length ≤ es.length + 1 := by
  rw [putM_len]
  split <;> omega
theorem mem_look {es : List KV} (h : (es.map (·.1)).Nodup) (e : KV) : e ∈ es ↔ lookM es e.1 = some e.2 := by
  induction es with
  | nil => simp [lookM_nil]
  | cons a es ih =>
    obtain ⟨a, u⟩ := a
    obtain ⟨k, v⟩ := e
    rw [List.map_cons, List.nodup_cons] at h
    rw [lookM_cons, List.mem_cons]
    by_cases hk : k = a
    · subst hk
      rw [if_pos rfl]
      constructor
      · rintro (h1 | h1)
        · cases h1; rfl
        · exact absurd (List.mem_map.2 ⟨_, h1, rfl⟩) h.1
      · intro h1
        cases h1
        exact .inl rfl
    · rw [if_neg hk]
      rw [← ih h.2]
      exact ⟨fun h1 => h1.resolve_left fun e => hk (by cases e; rfl), .inr⟩
theorem nil_KD : KD [] := ⟨fun _ h => (by cases h), List.nodup_nil⟩
theorem KD.add {es : List KV} (h : KD es) {k : List Int} (hk : k.length = 3) (o w : Int) : KD (addM es k o w) := h.put hk _
theorem KD.addH {es : List KV} (h : KD es) (p r s a : Int) : KD (addH es p r s a) := by
  unfold Go.Proofs.YtbjealobiblabaaDoor.addH
  cases decide (OkH p r s a) with
  | true => exact h.add rfl _ _
  | false => exact h
theorem addH_len (es : List KV) (p r s a : Int) : (addH es p r s a).length ≤ es.length + 1 := by
  unfold addH
  cases decide (OkH p r s a) with
  | true => exact put_len _ _ _
  | false => exact Nat.le_succ _
theorem KD.keys {es : List KV} (h : KD es) : keysN 3 es = true := List.all_eq_true.2 fun e he => by
  rw [h.1 e he]; rfl
-- Headers
abbrev Hd := Int × Int × Int × Int
def okHd (h : Hd) : Bool := decide (OkH h.1 h.2.1 h.2.2.1 h.2.2.2)
def keyH (h : Hd) : List Int := [h.2.2.1, cls h.1 h.2.1, h.2.2.2]
def isK (k : List Int) (h : Hd) : Bool := okHd h && decide (keyH h = k)
def cnt (k : List Int) : List Hd → Nat
  | [] => 0
  | h :: H => (bif isK k h then 1 else 0) + cnt k H
def wrd (k : List Int) : List Hd → Int
  | [] => 0
  | h :: H => (bif isK k h then 1 + h.1 + h.2.1 else 0) + wrd k H
theorem cnt_append (k : List Int) : ∀ H H' : List Hd, cnt k (H ++ H') = cnt k H + cnt k H'
  | [], H' => by simp [cnt]
  | h :: H, H' => by rw [List.cons_append, cnt, cnt, cnt_append k H H', Nat.add_assoc]
theorem wrd_append (k : List Int) : ∀ H H' : List Hd, wrd k (H ++ H') = wrd k H + wrd k H'
  | [], H' => by simp [wrd]
  | h :: H, H' => by rw [List.cons_append, wrd, wrd, wrd_append k H H']; omega
theorem cls_range (p r : Int) : 0 ≤ cls p r ∧ cls p r ≤ 13 := by
  unfold cls haymowref04_Of_0
  simp only [Bool.cond_eq_ite]
  (repeat' split) <;> omega
theorem isK_iff {k : List Int} {h : Hd} : isK k h = true ↔ OkH h.1 h.2.1 h.2.2.1 h.2.2.2 ∧ keyH h = k := by
  unfold isK okHd
  rw [Bool.and_eq_true, decide_eq_true_eq, decide_eq_true_eq]
theorem wrd_bounds (k : List Int) : ∀ H : List Hd, 0 ≤ wrd k H ∧ wrd k H ≤ 8191 * cnt k H ∧ cnt k H ≤ H.length
  | [] => by simp [wrd, cnt]
  | h :: H => by
    obtain ⟨h1, h2, h3⟩ := wrd_bounds k H
    simp only [wrd, cnt, List.length_cons]
    cases hk : isK k h with
    | true =>
      obtain ⟨⟨⟨a1, a2⟩, ⟨a3, a4⟩, _⟩, _⟩ := isK_iff.1 hk
      simp only [cond_true]
      omega
    | false => simp only [cond_false]; omega
theorem cnt_key {k : List Int} : ∀ {H : List Hd}, cnt k H ≠ 0 → ∃ s c a : Nat, s < 32 ∧ c < 14 ∧ a < 8 ∧ k = [(s : Int), (c : Int), (a : Int)]
  | [], h => absurd rfl h
  | h :: H, hc => by
    cases hk : isK k h with
    | true =>
      obtain ⟨⟨_, _, ⟨a1, a2⟩, a3, a4⟩, rfl⟩ := isK_iff.1 hk
      obtain ⟨c1, c2⟩ := cls_range h.1 h.2.1
      refine ⟨h.2.2.1.toNat, (cls h.1 h.2.1).toNat, h.2.2.2.toNat, by omega, by omega, by omega, ?_⟩
      unfold keyH
      rw [Int.toNat_of_nonneg a1, Int.toNat_of_nonneg c1, Int.toNat_of_nonneg a3]
    | false =>
      rw [cnt, hk] at hc
      exact cnt_key (H := H) (by simpa using hc)
/-- What a map of kinds holds, of headers. -/
def Holds (es : List KV) (H : List Hd) : Prop := KD es ∧ ∀ k, lookM es k = if cnt k H = 0 then none else some [(cnt k H : Int), wrd k H]
theorem holds_nil : Holds [] [] := ⟨nil_KD, fun k => rfl⟩
/-- So many more of a kind. -/
theorem look_add {es : List KV} {k : List Int} {H : List Hd} (h : Holds es H) (hH : H.length ≤ 100000) {o w : Int} (ho : 0 ≤ o ∧ o ≤ 100000) (hw : 0 ≤ w ∧ w ≤ 8191 * o) (k' : List Int) :
    lookM (addM es k o w) k' = if k' = k then some [(cnt k H : Int) + o, wrd k H + w] else lookM es k' := by
  unfold addM
  rw [look_put]
  by_cases e : k' = k
  · rw [if_pos e, if_pos e, h.2 k]
    obtain ⟨b1, b2, b3⟩ := wrd_bounds k H
    by_cases h0 : cnt k H = 0
    · rw [if_pos h0]
      simp only [Option.getD_none, List.headD_cons, List.tail_cons]
      have : wrd k H = 0 := by rw [h0] at b2; omega
      rw [h0, this, wr64 _ (by omega) (by omega), wr64 _ (by omega) (by omega)]
      rfl
    · rw [if_neg h0]
      simp only [Option.getD_some, List.headD_cons, List.tail_cons]
      rw [wr64 _ (by omega) (by omega), wr64 _ (by omega) (by omega)]
  · rw [if_neg e, if_neg e]
theorem one_yes {k : List Int} {x : Hd} (h : isK k x = true) : cnt k [x] = 1 ∧ wrd k [x] = 1 + x.1 + x.2.1 := by
  simp [cnt, wrd, h]
theorem one_no {k : List Int} {x : Hd} (h : isK k x = false) : cnt k [x] = 0 ∧ wrd k [x] = 0 := by
  simp [cnt, wrd, h]
theorem Holds.more {es : List KV} {H : List Hd} (h : Holds es H) (hH : H.length ≤ 100000) (x : Hd) : Holds (addH es x.1 x.2.1 x.2.2.1 x.2.2.2) (H ++ [x]) := by
  refine ⟨h.1.addH _ _ _ _, fun k => ?_⟩
  rw [cnt_append, wrd_append]
  unfold addH
  by_cases ho : OkH x.1 x.2.1 x.2.2.1 x.2.2.2
  · rw [decide_eq_true ho, cond_true, look_add h hH (by omega) (by obtain ⟨⟨_, _⟩, ⟨_, _⟩, _⟩ := ho; omega)]
    by_cases e : k = [x.2.2.1, cls x.1 x.2.1, x.2.2.2]
    · obtain ⟨e1, e2⟩ := one_yes (isK_iff.2 ⟨ho, e.symm⟩)
      rw [if_pos e, e1, e2, if_neg (by omega), ← e]
      rfl
    · have : isK k x = false := by
        cases hk : isK k x with
        | false => rfl
        | true => exact absurd (isK_iff.1 hk).2.symm e
      obtain ⟨e1, e2⟩ := one_no this
      rw [if_neg e, e1, e2, h.2 k, Int.add_zero]
      rfl
  · have : isK k x = false := by
      cases hk : isK k x with
      | false => rfl
      | true => exact absurd (isK_iff.1 hk).1 ho
    obtain ⟨e1, e2⟩ := one_no this
    rw [decide_eq_false ho, cond_false, e1, e2, h.2 k, Int.add_zero]
    rfl
/-- The document's rows. -/
def rowK (H : List Hd) (k : List Int) : List KV := if cnt k H = 0 then [] else [(k, [(cnt k H : Int), wrd k H])]
def rfA (H : List Hd) (s c : Int) (i j : Nat) : List KV := (List.range' i j).flatMap fun (a : Nat) => rowK H [s, c, (a : Int)]
def rfC (H : List Hd) (s : Int) (i j : Nat) : List KV := (List.range' i j).flatMap fun (c : Nat) => rfA H s (c : Int) 0 8
def rfS (H : List Hd) (i j : Nat) : List KV := (List.range' i j).flatMap fun (s : Nat) => rfC H (s : Int) 0 14
def RF (H : List Hd) : List KV := rfS H 0 32
theorem mem_rowK {H : List Hd} {k : List Int} {e : KV} : e ∈ rowK H k ↔ e.1 = k ∧ cnt k H ≠ 0 ∧ e.2 = [(cnt k H : Int), wrd k H] := by
  unfold rowK
  by_cases h : cnt k H = 0
  · rw [if_pos h]; simp [h]
  · rw [if_neg h, List.mem_singleton]
    obtain ⟨a, b⟩ := e
    constructor
    · intro h1; cases h1; exact ⟨rfl, h, rfl⟩
    · rintro ⟨h1, _, h3⟩
      simp only at h1 h3
      rw [h1] at *
      rw [h3, h1]
theorem mem_RF {H : List Hd} {e : KV} : e ∈ RF H ↔ cnt e.1 H ≠ 0 ∧ e.2 = [(cnt e.1 H : Int), wrd e.1 H] := by
  unfold RF rfS rfC rfA
  simp only [List.mem_flatMap, List.mem_range'_1, mem_rowK]
  constructor
  · rintro ⟨s, _, c, _, a, _, h1, h2, h3⟩
    rw [h1]
    exact ⟨h2, h3⟩
  · rintro ⟨h1, h2⟩
    obtain ⟨s, c, a, hs, hc, ha, hk⟩ := cnt_key h1
    exact ⟨s, ⟨by omega, by omega⟩, c, ⟨by omega, by omega⟩, a, ⟨by omega, by omega⟩, hk, by rw [← hk]; exact h1, by rw [← hk]; exact h2⟩
theorem rowK_pair (H : List Hd) (k : List Int) : (rowK H k).Pairwise LtK := by
  unfold rowK
  split
  · exact List.Pairwise.nil
  · exact List.pairwise_singleton _ _
theorem RF_sorted (H : List Hd) : (RF H).Pairwise LtK := by
  have lt : ∀ i j : Nat, (List.range' i j).Pairwise (· < ·) := fun i j => List.pairwise_lt_range' ..
  have kk : ∀ {s c a : Int} {e : KV}, e ∈ rowK H [s, c, a] → kA e = s ∧ kB e = c ∧ kC e = a := fun he => by
    unfold kA kB kC
    rw [(mem_rowK.1 he).1]
    exact ⟨rfl, rfl, rfl⟩
  have ka : ∀ {s c : Int} {i j : Nat} {e : KV}, e ∈ rfA H s c i j → kA e = s ∧ kB e = c := fun he => by
    obtain ⟨a, _, h⟩ := List.mem_flatMap.1 he
    exact ⟨(kk h).1, (kk h).2.1⟩
  have kc : ∀ {s : Int} {i j : Nat} {e : KV}, e ∈ rfC H s i j → kA e = s := fun he => by
    obtain ⟨c, _, h⟩ := List.mem_flatMap.1 he
    exact (ka h).1
  unfold RF rfS
  rw [List.pairwise_flatMap]
  refine ⟨fun s _ => ?_, (lt 0 32).imp fun {s s'} hs x hx y hy => Or.inl ?_⟩
  · unfold rfC
    rw [List.pairwise_flatMap]
    refine ⟨fun c _ => ?_, (lt 0 14).imp fun {c c'} hs x hx y hy => Or.inr ⟨by rw [(ka hx).1, (ka hy).1], Or.inl ?_⟩⟩
    · unfold rfA
      rw [List.pairwise_flatMap]
      refine ⟨fun a _ => rowK_pair _ _, (lt 0 8).imp fun {a a'} hs x hx y hy => Or.inr ⟨by rw [(kk hx).1, (kk hy).1], Or.inr ⟨by rw [(kk hx).2.1, (kk hy).2.1], ?_⟩⟩⟩
      rw [(kk hx).2.2, (kk hy).2.2]
      omega
    · rw [(ka hx).2, (ka hy).2]
      omega
  · rw [kc hx, kc hy]
    omega
theorem lt_irr {x : KV} : ¬ LtK x x := by unfold LtK; omega
theorem perm_of {l l' : List KV} (h : l.Nodup) (h' : l'.Nodup) (hm : ∀ e, e ∈ l ↔ e ∈ l') : l.Perm l' := by
  rw [List.perm_iff_count]
  intro a
  by_cases ha : a ∈ l
  · rw [List.Nodup.count h, List.Nodup.count h', if_pos ha, if_pos ((hm a).1 ha)]
  · rw [List.Nodup.count h, List.Nodup.count h', if_neg ha, if_neg (fun h => ha ((hm a).2 h))]
theorem nodup_map {l : List KV} (h : (l.map (·.1)).Nodup) : l.Nodup := by
  induction l with
  | nil => exact List.nodup_nil
  | cons a l ih =>
    rw [List.map_cons, List.nodup_cons] at h
    exact List.nodup_cons.2 ⟨fun ha => h.1 (List.mem_map.2 ⟨a, ha, rfl⟩), ih h.2⟩
/-- The rows of a map that holds what headers make are the document's. -/
theorem sort_RF {es : List KV} {H : List Hd} (h : Holds es H) : sortK es = RF H := by
  have hs := RF_sorted H
  have p : es.Perm (RF H) := perm_of (nodup_map h.1.2) (List.Pairwise.imp (fun {x y} hl (e : x = y) => lt_irr (e ▸ hl)) hs) fun e => by
    rw [mem_look h.1.2, mem_RF, h.2]
    by_cases h0 : cnt e.1 H = 0
    · rw [if_pos h0]; simp [h0]
    · rw [if_neg h0]
      simp only [Option.some.injEq, ne_eq, h0, not_false_eq_true, true_and]
      exact eq_comm
  refine List.Perm.eq_of_pairwise (le := fun x y => leK x y = true) (fun a b ha hb h1 h2 => ?_) (sortK_sorted es) (hs.imp fun {x y} hl => leK_iff.2 (by unfold LtK at *; omega)) ((sortK_perm es).trans p)
  exact h.1.inj ((sortK_perm es).mem_iff.1 ha) (p.mem_iff.2 hb) (leK_iff.1 h2) (leK_iff.1 h1)
end Go.Proofs.YtbjealobiblabaaDoor

namespace Go.Proofs.YtbjealobiblabaaDoor
open Go Go.RowKit
set_option maxRecDepth 100000
abbrev hdAt (P R S A : List Int) (i : Nat) : Hd := (P.getD i 0, R.getD i 0, S.getD i 0, A.getD i 0)
/-- Headers, from columns. -/
def hdI (P R S A : List Int) (i j : Nat) : List Hd := (List.range' i j).map (hdAt P R S A)
theorem hdI_len (P R S A : List Int) (i j : Nat) : (hdI P R S A i j).length = j := by simp [hdI]
theorem hdI_succ (P R S A : List Int) (i j : Nat) : hdI P R S A i (j + 1) = hdAt P R S A i :: hdI P R S A (i + 1) j := by simp [hdI, List.range'_succ]
/-- What a census of them holds. -/
def ofF (P R S A : List Int) : Nat → Nat → List KV → List KV
  | _, 0, es => es
  | i, j + 1, es => ofF P R S A (i + 1) j (addH es (P.getD i 0) (R.getD i 0) (S.getD i 0) (A.getD i 0))
theorem of_holds (P R S A : List Int) : ∀ (j i : Nat) (es : List KV) (H : List Hd), Holds es H → H.length + j ≤ 100000 → Holds (ofF P R S A i j es) (H ++ hdI P R S A i j)
  | 0, i, es, H, h, _ => by simpa [hdI, ofF] using h
  | j + 1, i, es, H, h, hb => by
    have := of_holds P R S A j (i + 1) _ _ (h.more (by omega) (hdAt P R S A i)) (by rw [List.length_append, List.length_singleton]; omega)
    rw [hdI_succ, ofF]
    simpa using this
theorem of_len (P R S A : List Int) : ∀ (j i : Nat) (es : List KV), (ofF P R S A i j es).length ≤ es.length + j
  | 0, i, es => Nat.le_refl _
  | j + 1, i, es => by
    have := of_len P R S A j (i + 1) (addH es (P.getD i 0) (R.getD i 0) (S.getD i 0) (A.getD i 0))
    have := addH_len es (P.getD i 0) (R.getD i 0) (S.getD i 0) (A.getD i 0)
    rw [ofF]
    omega
abbrev hdC (P R S A : List Int) (G : List Bool) : Cont := .rows [.ints .i64 P, .ints .i64 R, .ints .i64 S, .ints .i64 A, .bools G]
end Go.Proofs.YtbjealobiblabaaDoor

namespace Go.Proofs.YtbjealobiblabaaDoor
open Go Go.RowKit
set_option maxRecDepth 100000
abbrev xC (a : Nat) : List Cut := [(15,[0,3,4,5,6,7,8],[0,2,3,4],a),(10,[0,3,4,5,6],[0,3,5],a),(6,[0,3,4,5],[0,3],a),(2,[0,3,4],[0,3],a)]
abbrev xT (nn : Bool) (n : Nat) (c : Option Nat) (v : AV) (s k a : AV) (r : AV) (i : AV) : List AV := [.sl nn 0 5 0 1 n c, .unk, .unk, v, s, k, a, r, i] ++ List.replicate 76 .unk
abbrev xV (l : List KV) : AV := match l with
  | [] => .val (.slice none 0 0)
  | _ :: _ => .sl true 3 5 0 1 l.length none
abbrev xB (l : List KV) : List (Nat × Option ABlk) := match l with
  | [] => []
  | _ :: _ => [(3, some ⟨true, true, .rows (colsF fs5 l)⟩)]
abbrev x0 (P R S A : List Int) (G : List Bool) : Nat × Option ABlk := (0, some ⟨false, false, hdC P R S A G⟩)
abbrev x2 (s k a o w : Int) : Nat × Option ABlk := (2, some ⟨true, false, .cells [vi s, vi k, vi a, vi o, vi w]⟩)
theorem x1N (P R S A : List Int) (G : List Bool) (nn : Bool) (n : Nat) (c : Option Nat) (s : Int) : H_ Tryd.prog L_census_Sum_plus Tryd.f19 (xC 9) [] 99 (hd Tryd.f19 0) (xT nn n c (.val (.slice none 0 0)) (vi s) .unk .unk .unk .unk) ⟨[x0 P R S A G], 4⟩ =
    bif decide (s < 32) then some (.head (hd Tryd.f19 1) (xT nn n c (.val (.slice none 0 0)) (vi s) (vi 0) .unk .unk .unk) ⟨[x0 P R S A G, (3, none)], 9⟩ true) else some (.ret (.val (.slice none 0 0)) ⟨[], 99⟩ true) := by kernel_rfl
theorem x2N (P R S A : List Int) (G : List Bool) (nn : Bool) (n : Nat) (c : Option Nat) (s k : Int) : H_ Tryd.prog L_census_Sum_plus Tryd.f19 (xC 9) [] 99 (hd Tryd.f19 1) (xT nn n c (.val (.slice none 0 0)) (vi s) (vi k) .unk .unk .unk) ⟨[x0 P R S A G], 4⟩ =
    bif decide (k < 14) then some (.head (hd Tryd.f19 2) (xT nn n c (.val (.slice none 0 0)) (vi s) (vi k) (vi 0) .unk .unk) ⟨[x0 P R S A G, (3, none), (5, none)], 9⟩ true) else some (.head (hd Tryd.f19 0) (xT nn n c (.val (.slice none 0 0)) (vi (up1 s)) .unk .unk .unk .unk) ⟨[x0 P R S A G, (3, none)], 9⟩ true) := by kernel_rfl
theorem x3N (P R S A : List Int) (G : List Bool) (nn : Bool) (n : Nat) (c : Option Nat) (s k a : Int) : H_ Tryd.prog L_census_Sum_plus Tryd.f19 (xC 9) [] 99 (hd Tryd.f19 2) (xT nn n c (.val (.slice none 0 0)) (vi s) (vi k) (vi a) .unk .unk) ⟨[x0 P R S A G], 4⟩ =
    bif decide (a < 8) then some (.head (hd Tryd.f19 3) (xT nn n c (.val (.slice none 0 0)) (vi s) (vi k) (vi a) (.ptr 4 1 0 0) (vi 0)) ⟨[x0 P R S A G, (2, none), (3, none), (4, some ⟨true, false, .cells [vi s, vi k, vi a, vi 0, vi 0]⟩)], 9⟩ true) else some (.head (hd Tryd.f19 1) (xT nn n c (.val (.slice none 0 0)) (vi s) (vi (up1 k)) .unk .unk .unk) ⟨[x0 P R S A G, (3, none)], 9⟩ true) := by kernel_rfl
theorem x4N (P R S A : List Int) (G : List Bool) (nn : Bool) (n : Nat) (c : Option Nat) (s k a o w i : Int) : H_ Tryd.prog L_census_Sum_plus Tryd.f19 (xC 9) [] 99 (hd Tryd.f19 3) (xT nn n c (.val (.slice none 0 0)) (vi s) (vi k) (vi a) (.ptr 2 1 0 0) (vi i)) ⟨[x0 P R S A G, x2 s k a o w], 4⟩ =
    bif decide (i < Int.ofNat n) then (bif (bif (bif (bif (haymowref12_Check_0 (P.getD (iz i) 0) (R.getD (iz i) 0) (S.getD (iz i) 0) (A.getD (iz i) 0) (G.getD (iz i) false) == 0) then (S.getD (iz i) 0) == s else false) then (A.getD (iz i) 0) == a else false) then haymowref04_Of_0 (haymowref13_Words_0 (P.getD (iz i) 0) (R.getD (iz i) 0)) == k else false) then some (.head (hd Tryd.f19 3) (xT nn n c (.val (.slice none 0 0)) (vi s) (vi k) (vi a) (.ptr 2 1 0 0) (vi (up1 i))) ⟨[x0 P R S A G, x2 s k a (IntKind.i64.wrap (o + 1)) (IntKind.i64.wrap (w + haymowref13_Words_0 (P.getD (iz i) 0) (R.getD (iz i) 0))), (3, none), (4, none)], 9⟩ (conj [decide (0 ≤ i), decide (i.toNat < n), decide (iz i < P.length), decide (iz i < R.length), decide (0 ≤ i), decide (i.toNat < n), decide (iz i < P.length), decide (iz i < R.length), decide (iz i < S.length), decide (iz i < A.length), decide (iz i < G.length), !(haymowref12_Check_0 (P.getD (iz i) 0) (R.getD (iz i) 0) (S.getD (iz i) 0) (A.getD (iz i) 0) (G.getD (iz i) false) == 0) || decide (0 ≤ i), !(haymowref12_Check_0 (P.getD (iz i) 0) (R.getD (iz i) 0) (S.getD (iz i) 0) (A.getD (iz i) 0) (G.getD (iz i) false) == 0) || decide (i.toNat < n), !(haymowref12_Check_0 (P.getD (iz i) 0) (R.getD (iz i) 0) (S.getD (iz i) 0) (A.getD (iz i) 0) (G.getD (iz i) false) == 0) || decide (iz i < S.length), !(bif (haymowref12_Check_0 (P.getD (iz i) 0) (R.getD (iz i) 0) (S.getD (iz i) 0) (A.getD (iz i) 0) (G.getD (iz i) false) == 0) then (S.getD (iz i) 0) == s else false) || decide (0 ≤ i), !(bif (haymowref12_Check_0 (P.getD (iz i) 0) (R.getD (iz i) 0) (S.getD (iz i) 0) (A.getD (iz i) 0) (G.getD (iz i) false) == 0) then (S.getD (iz i) 0) == s else false) || decide (i.toNat < n), !(bif (haymowref12_Check_0 (P.getD (iz i) 0) (R.getD (iz i) 0) (S.getD (iz i) 0) (A.getD (iz i) 0) (G.getD (iz i) false) == 0) then (S.getD (iz i) 0) == s else false) || decide (iz i < A.length)])) else some (.head (hd Tryd.f19 3) (xT nn n c (.val (.slice none 0 0)) (vi s) (vi k) (vi a) (.ptr 2 1 0 0) (vi (up1 i))) ⟨[x0 P R S A G, x2 s k a o w, (3, none), (4, none)], 9⟩ (conj [decide (0 ≤ i), decide (i.toNat < n), decide (iz i < P.length), decide (iz i < R.length), decide (0 ≤ i), decide (i.toNat < n), decide (iz i < P.length), decide (iz i < R.length), decide (iz i < S.length), decide (iz i < A.length), decide (iz i < G.length), !(haymowref12_Check_0 (P.getD (iz i) 0) (R.getD (iz i) 0) (S.getD (iz i) 0) (A.getD (iz i) 0) (G.getD (iz i) false) == 0) || decide (0 ≤ i), !(haymowref12_Check_0 (P.getD (iz i) 0) (R.getD (iz i) 0) (S.getD (iz i) 0) (A.getD (iz i) 0) (G.getD (iz i) false) == 0) || decide (i.toNat < n), !(haymowref12_Check_0 (P.getD (iz i) 0) (R.getD (iz i) 0) (S.getD (iz i) 0) (A.getD (iz i) 0) (G.getD (iz i) false) == 0) || decide (iz i < S.length), !(bif (haymowref12_Check_0 (P.getD (iz i) 0) (R.getD (iz i) 0) (S.getD (iz i) 0) (A.getD (iz i) 0) (G.getD (iz i) false) == 0) then (S.getD (iz i) 0) == s else false) || decide (0 ≤ i), !(bif (haymowref12_Check_0 (P.getD (iz i) 0) (R.getD (iz i) 0) (S.getD (iz i) 0) (A.getD (iz i) 0) (G.getD (iz i) false) == 0) then (S.getD (iz i) 0) == s else false) || decide (i.toNat < n), !(bif (haymowref12_Check_0 (P.getD (iz i) 0) (R.getD (iz i) 0) (S.getD (iz i) 0) (A.getD (iz i) 0) (G.getD (iz i) false) == 0) then (S.getD (iz i) 0) == s else false) || decide (iz i < A.length)])))
    else bif decide (0 < o) then some (.head (hd Tryd.f19 2) (xT nn n c (.sl true 5 5 0 1 1 none) (vi s) (vi k) (vi (up1 a)) .unk .unk) ⟨[x0 P R S A G, (3, none), (5, some ⟨true, true, .rows (colsF fs5 [([s, k, a], [o, w])])⟩)], 9⟩ true)
    else some (.head (hd Tryd.f19 2) (xT nn n c (.val (.slice none 0 0)) (vi s) (vi k) (vi (up1 a)) .unk .unk) ⟨[x0 P R S A G, (3, none), (5, none)], 9⟩ true) := by kernel_rfl
theorem xiN (P R S A : List Int) (G : List Bool) (nn : Bool) (n : Nat) (c : Option Nat) : F_ Tryd.prog L_census_Sum_plus Tryd.f19 (xC 9) [] 99 [.sl nn 0 5 0 1 n c] ⟨[x0 P R S A G], 1⟩ = some (.head (hd Tryd.f19 0) (xT nn n c (.val (.slice none 0 0)) (vi 0) .unk .unk .unk .unk) ⟨[x0 P R S A G, (3, none)], 9⟩ true) := by kernel_rfl
theorem x1Y (P R S A : List Int) (G : List Bool) (nn : Bool) (n : Nat) (c : Option Nat) (l : List KV) (q : Nat) (s : Int) : H_ Tryd.prog L_census_Sum_plus Tryd.f19 (xC 9) [3] 99 (hd Tryd.f19 0) (xT nn n c (.sl true 3 5 0 1 q none) (vi s) .unk .unk .unk .unk) ⟨[x0 P R S A G, (3, some ⟨true, true, .rows (colsF fs5 l)⟩)], 4⟩ =
    bif decide (s < 32) then some (.head (hd Tryd.f19 1) (xT nn n c (.sl true 3 5 0 1 q none) (vi s) (vi 0) .unk .unk .unk) ⟨[x0 P R S A G, (3, some ⟨true, true, .rows (colsF fs5 l)⟩)], 9⟩ true) else some (.ret (.sl true 3 5 0 1 q none) ⟨[(3, some ⟨true, true, .rows (colsF fs5 l)⟩)], 99⟩ true) := by kernel_rfl
theorem x2Y (P R S A : List Int) (G : List Bool) (nn : Bool) (n : Nat) (c : Option Nat) (l : List KV) (q : Nat) (s k : Int) : H_ Tryd.prog L_census_Sum_plus Tryd.f19 (xC 9) [3] 99 (hd Tryd.f19 1) (xT nn n c (.sl true 3 5 0 1 q none) (vi s) (vi k) .unk .unk .unk) ⟨[x0 P R S A G, (3, some ⟨true, true, .rows (colsF fs5 l)⟩)], 4⟩ =
    bif decide (k < 14) then some (.head (hd Tryd.f19 2) (xT nn n c (.sl true 3 5 0 1 q none) (vi s) (vi k) (vi 0) .unk .unk) ⟨[x0 P R S A G, (3, some ⟨true, true, .rows (colsF fs5 l)⟩), (5, none)], 9⟩ true) else some (.head (hd Tryd.f19 0) (xT nn n c (.sl true 3 5 0 1 q none) (vi (up1 s)) .unk .unk .unk .unk) ⟨[x0 P R S A G, (3, some ⟨true, true, .rows (colsF fs5 l)⟩)], 9⟩ true) := by kernel_rfl
theorem x3Y (P R S A : List Int) (G : List Bool) (nn : Bool) (n : Nat) (c : Option Nat) (l : List KV) (q : Nat) (s k a : Int) : H_ Tryd.prog L_census_Sum_plus Tryd.f19 (xC 9) [3] 99 (hd Tryd.f19 2) (xT nn n c (.sl true 3 5 0 1 q none) (vi s) (vi k) (vi a) .unk .unk) ⟨[x0 P R S A G, (3, some ⟨true, true, .rows (colsF fs5 l)⟩)], 4⟩ =
    bif decide (a < 8) then some (.head (hd Tryd.f19 3) (xT nn n c (.sl true 3 5 0 1 q none) (vi s) (vi k) (vi a) (.ptr 4 1 0 0) (vi 0)) ⟨[x0 P R S A G, (2, none), (3, some ⟨true, true, .rows (colsF fs5 l)⟩), (4, some ⟨true, false, .cells [vi s, vi k, vi a, vi 0, vi 0]⟩)], 9⟩ true) else some (.head (hd Tryd.f19 1) (xT nn n c (.sl true 3 5 0 1 q none) (vi s) (vi (up1 k)) .unk .unk .unk) ⟨[x0 P R S A G, (3, some ⟨true, true, .rows (colsF fs5 l)⟩)], 9⟩ true) := by kernel_rfl
theorem x4Y (P R S A : List Int) (G : List Bool) (nn : Bool) (n : Nat) (c : Option Nat) (l : List KV) (q : Nat) (s k a o w i : Int) : H_ Tryd.prog L_census_Sum_plus Tryd.f19 (xC 9) [3] 99 (hd Tryd.f19 3) (xT nn n c (.sl true 3 5 0 1 q none) (vi s) (vi k) (vi a) (.ptr 2 1 0 0) (vi i)) ⟨[x0 P R S A G, x2 s k a o w, (3, some ⟨true, true, .rows (colsF fs5 l)⟩)], 4⟩ =
    bif decide (i < Int.ofNat n) then (bif (bif (bif (bif (haymowref12_Check_0 (P.getD (iz i) 0) (R.getD (iz i) 0) (S.getD (iz i) 0) (A.getD (iz i) 0) (G.getD (iz i) false) == 0) then (S.getD (iz i) 0) == s else false) then (A.getD (iz i) 0) == a else false) then haymowref04_Of_0 (haymowref13_Words_0 (P.getD (iz i) 0) (R.getD (iz i) 0)) == k else false) then some (.head (hd Tryd.f19 3) (xT nn n c (.sl true 3 5 0 1 q none) (vi s) (vi k) (vi a) (.ptr 2 1 0 0) (vi (up1 i))) ⟨[x0 P R S A G, x2 s k a (IntKind.i64.wrap (o + 1)) (IntKind.i64.wrap (w + haymowref13_Words_0 (P.getD (iz i) 0) (R.getD (iz i) 0))), (3, some ⟨true, true, .rows (colsF fs5 l)⟩), (4, none)], 9⟩ (conj [decide (0 ≤ i), decide (i.toNat < n), decide (iz i < P.length), decide (iz i < R.length), decide (0 ≤ i), decide (i.toNat < n), decide (iz i < P.length), decide (iz i < R.length), decide (iz i < S.length), decide (iz i < A.length), decide (iz i < G.length), !(haymowref12_Check_0 (P.getD (iz i) 0) (R.getD (iz i) 0) (S.getD (iz i) 0) (A.getD (iz i) 0) (G.getD (iz i) false) == 0) || decide (0 ≤ i), !(haymowref12_Check_0 (P.getD (iz i) 0) (R.getD (iz i) 0) (S.getD (iz i) 0) (A.getD (iz i) 0) (G.getD (iz i) false) == 0) || decide (i.toNat < n), !(haymowref12_Check_0 (P.getD (iz i) 0) (R.getD (iz i) 0) (S.getD (iz i) 0) (A.getD (iz i) 0) (G.getD (iz i) false) == 0) || decide (iz i < S.length), !(bif (haymowref12_Check_0 (P.getD (iz i) 0) (R.getD (iz i) 0) (S.getD (iz i) 0) (A.getD (iz i) 0) (G.getD (iz i) false) == 0) then (S.getD (iz i) 0) == s else false) || decide (0 ≤ i), !(bif (haymowref12_Check_0 (P.getD (iz i) 0) (R.getD (iz i) 0) (S.getD (iz i) 0) (A.getD (iz i) 0) (G.getD (iz i) false) == 0) then (S.getD (iz i) 0) == s else false) || decide (i.toNat < n), !(bif (haymowref12_Check_0 (P.getD (iz i) 0) (R.getD (iz i) 0) (S.getD (iz i) 0) (A.getD (iz i) 0) (G.getD (iz i) false) == 0) then (S.getD (iz i) 0) == s else false) || decide (iz i < A.length)])) else some (.head (hd Tryd.f19 3) (xT nn n c (.sl true 3 5 0 1 q none) (vi s) (vi k) (vi a) (.ptr 2 1 0 0) (vi (up1 i))) ⟨[x0 P R S A G, x2 s k a o w, (3, some ⟨true, true, .rows (colsF fs5 l)⟩), (4, none)], 9⟩ (conj [decide (0 ≤ i), decide (i.toNat < n), decide (iz i < P.length), decide (iz i < R.length), decide (0 ≤ i), decide (i.toNat < n), decide (iz i < P.length), decide (iz i < R.length), decide (iz i < S.length), decide (iz i < A.length), decide (iz i < G.length), !(haymowref12_Check_0 (P.getD (iz i) 0) (R.getD (iz i) 0) (S.getD (iz i) 0) (A.getD (iz i) 0) (G.getD (iz i) false) == 0) || decide (0 ≤ i), !(haymowref12_Check_0 (P.getD (iz i) 0) (R.getD (iz i) 0) (S.getD (iz i) 0) (A.getD (iz i) 0) (G.getD (iz i) false) == 0) || decide (i.toNat < n), !(haymowref12_Check_0 (P.getD (iz i) 0) (R.getD (iz i) 0) (S.getD (iz i) 0) (A.getD (iz i) 0) (G.getD (iz i) false) == 0) || decide (iz i < S.length), !(bif (haymowref12_Check_0 (P.getD (iz i) 0) (R.getD (iz i) 0) (S.getD (iz i) 0) (A.getD (iz i) 0) (G.getD (iz i) false) == 0) then (S.getD (iz i) 0) == s else false) || decide (0 ≤ i), !(bif (haymowref12_Check_0 (P.getD (iz i) 0) (R.getD (iz i) 0) (S.getD (iz i) 0) (A.getD (iz i) 0) (G.getD (iz i) false) == 0) then (S.getD (iz i) 0) == s else false) || decide (i.toNat < n), !(bif (haymowref12_Check_0 (P.getD (iz i) 0) (R.getD (iz i) 0) (S.getD (iz i) 0) (A.getD (iz i) 0) (G.getD (iz i) false) == 0) then (S.getD (iz i) 0) == s else false) || decide (iz i < A.length)])))
    else bif decide (0 < o) then some (.head (hd Tryd.f19 2) (xT nn n c (.sl true 5 5 0 1 (q + 1) none) (vi s) (vi k) (vi (up1 a)) .unk .unk) ⟨[x0 P R S A G, (3, none), (5, some ⟨true, true, .rows [.ints .i64 (List.take q (l.map kA) ++ [s]), .ints .i64 (List.take q (l.map kB) ++ [k]), .ints .i64 (List.take q (l.map kC) ++ [a]), .ints .i64 (List.take q (l.map kD) ++ [o]), .ints .i64 (List.take q (l.map kE) ++ [w])]⟩)], 9⟩ (conj [decide (0 < q), decide ((q + 1) * 40 ≤ 140737488355328), decide (q ≤ (l.map kA).length), decide (q ≤ (l.map kB).length), decide (q ≤ (l.map kC).length), decide (q ≤ (l.map kD).length), decide (q ≤ (l.map kE).length)]))
    else some (.head (hd Tryd.f19 2) (xT nn n c (.sl true 3 5 0 1 q none) (vi s) (vi k) (vi (up1 a)) .unk .unk) ⟨[x0 P R S A G, (3, some ⟨true, true, .rows (colsF fs5 l)⟩), (5, none)], 9⟩ true) := by kernel_rfl
theorem g1 (P R S A : List Int) (G : List Bool) (nn : Bool) (n : Nat) (c : Option Nat) (s : Nat) (l : List KV) (hs : s < 32) : Goes Tryd.prog 1 ⟨hd Tryd.f19 0, xT nn n c (xV l) (vi (s : Int)) .unk .unk .unk .unk, ⟨[x0 P R S A G] ++ xB l, 4⟩⟩ ⟨hd Tryd.f19 1, xT nn n c (xV l) (vi (s : Int)) (vi 0) .unk .unk .unk, ⟨[x0 P R S A G] ++ xB l, 4⟩⟩ := by
  match l with
  | [] =>
    have h := x1N P R S A G nn n c (s : Int)
    rw [decide_eq_true (show (s : Int) < 32 by omega), cond_true] at h
    exact (H_head (f := Tryd.f19) (cuts := xC 9) (ns := []) (top := 99) hE_census_Sum_plus mixedP rfl h).trans (Goes.ren (P := Tryd.prog) (B := 1) (σ := [(0, 0)]) (nx := 4) rfl)
  | e :: l =>
    have h := x1Y P R S A G nn n c (e :: l) (e :: l).length (s : Int)
    rw [decide_eq_true (show (s : Int) < 32 by omega), cond_true] at h
    exact (H_head (f := Tryd.f19) (cuts := xC 9) (ns := [3]) (top := 99) hE_census_Sum_plus mixedP rfl h).trans (Goes.ren (P := Tryd.prog) (B := 1) (σ := [(0, 0), (3, 3)]) (nx := 4) rfl)
theorem g2 (P R S A : List Int) (G : List Bool) (nn : Bool) (n : Nat) (c : Option Nat) (s k : Nat) (l : List KV) (hs : k < 14) : Goes Tryd.prog 1 ⟨hd Tryd.f19 1, xT nn n c (xV l) (vi (s : Int)) (vi (k : Int)) .unk .unk .unk, ⟨[x0 P R S A G] ++ xB l, 4⟩⟩ ⟨hd Tryd.f19 2, xT nn n c (xV l) (vi (s : Int)) (vi (k : Int)) (vi 0) .unk .unk, ⟨[x0 P R S A G] ++ xB l, 4⟩⟩ := by
  match l with
  | [] =>
    have h := x2N P R S A G nn n c (s : Int) (k : Int)
    rw [decide_eq_true (show (k : Int) < 14 by omega), cond_true] at h
    exact (H_head (f := Tryd.f19) (cuts := xC 9) (ns := []) (top := 99) hE_census_Sum_plus mixedP rfl h).trans (Goes.ren (P := Tryd.prog) (B := 1) (σ := [(0, 0)]) (nx := 4) rfl)
  | e :: l =>
    have h := x2Y P R S A G nn n c (e :: l) (e :: l).length (s : Int) (k : Int)
    rw [decide_eq_true (show (k : Int) < 14 by omega), cond_true] at h
    exact (H_head (f := Tryd.f19) (cuts := xC 9) (ns := [3]) (top := 99) hE_census_Sum_plus mixedP rfl h).trans (Goes.ren (P := Tryd.prog) (B := 1) (σ := [(0, 0), (3, 3)]) (nx := 4) rfl)
theorem g2e (P R S A : List Int) (G : List Bool) (nn : Bool) (n : Nat) (c : Option Nat) (s : Nat) (l : List KV) (hs : s < 32) : Goes Tryd.prog 1 ⟨hd Tryd.f19 1, xT nn n c (xV l) (vi (s : Int)) (vi ((14 : Nat) : Int)) .unk .unk .unk, ⟨[x0 P R S A G] ++ xB l, 4⟩⟩ ⟨hd Tryd.f19 0, xT nn n c (xV l) (vi ((s + 1 : Nat) : Int)) .unk .unk .unk .unk, ⟨[x0 P R S A G] ++ xB l, 4⟩⟩ := by
  match l with
  | [] =>
    have h := x2N P R S A G nn n c (s : Int) ((14 : Nat) : Int)
    rw [decide_eq_false (show ¬ ((14 : Nat) : Int) < 14 by omega), cond_false, up1_nat (by omega)] at h
    exact (H_head (f := Tryd.f19) (cuts := xC 9) (ns := []) (top := 99) hE_census_Sum_plus mixedP rfl h).trans (Goes.ren (P := Tryd.prog) (B := 1) (σ := [(0, 0)]) (nx := 4) rfl)
  | e :: l =>
    have h := x2Y P R S A G nn n c (e :: l) (e :: l).length (s : Int) ((14 : Nat) : Int)
    rw [decide_eq_false (show ¬ ((14 : Nat) : Int) < 14 by omega), cond_false, up1_nat (by omega)] at h
    exact (H_head (f := Tryd.f19) (cuts := xC 9) (ns := [3]) (top := 99) hE_census_Sum_plus mixedP rfl h).trans (Goes.ren (P := Tryd.prog) (B := 1) (σ := [(0, 0), (3, 3)]) (nx := 4) rfl)
theorem g3 (P R S A : List Int) (G : List Bool) (nn : Bool) (n : Nat) (c : Option Nat) (s k a : Nat) (l : List KV) (hs : a < 8) : Goes Tryd.prog 1 ⟨hd Tryd.f19 2, xT nn n c (xV l) (vi (s : Int)) (vi (k : Int)) (vi (a : Int)) .unk .unk, ⟨[x0 P R S A G] ++ xB l, 4⟩⟩ ⟨hd Tryd.f19 3, xT nn n c (xV l) (vi (s : Int)) (vi (k : Int)) (vi (a : Int)) (.ptr 2 1 0 0) (vi 0), ⟨[x0 P R S A G, x2 (s : Int) (k : Int) (a : Int) 0 0] ++ xB l, 4⟩⟩ := by
  match l with
  | [] =>
    have h := x3N P R S A G nn n c (s : Int) (k : Int) (a : Int)
    rw [decide_eq_true (show (a : Int) < 8 by omega), cond_true] at h
    exact (H_head (f := Tryd.f19) (cuts := xC 9) (ns := []) (top := 99) hE_census_Sum_plus mixedP rfl h).trans (Goes.ren (P := Tryd.prog) (B := 1) (σ := [(0, 0), (2, 4)]) (nx := 4) rfl)
  | e :: l =>
    have h := x3Y P R S A G nn n c (e :: l) (e :: l).length (s : Int) (k : Int) (a : Int)
    rw [decide_eq_true (show (a : Int) < 8 by omega), cond_true] at h
    exact (H_head (f := Tryd.f19) (cuts := xC 9) (ns := [3]) (top := 99) hE_census_Sum_plus mixedP rfl h).trans (Goes.ren (P := Tryd.prog) (B := 1) (σ := [(0, 0), (2, 4), (3, 3)]) (nx := 4) rfl)
theorem g3e (P R S A : List Int) (G : List Bool) (nn : Bool) (n : Nat) (c : Option Nat) (s k : Nat) (l : List KV) (hs : k < 14) : Goes Tryd.prog 1 ⟨hd Tryd.f19 2, xT nn n c (xV l) (vi (s : Int)) (vi (k : Int)) (vi ((8 : Nat) : Int)) .unk .unk, ⟨[x0 P R S A G] ++ xB l, 4⟩⟩ ⟨hd Tryd.f19 1, xT nn n c (xV l) (vi (s : Int)) (vi ((k + 1 : Nat) : Int)) .unk .unk .unk, ⟨[x0 P R S A G] ++ xB l, 4⟩⟩ := by
  match l with
  | [] =>
    have h := x3N P R S A G nn n c (s : Int) (k : Int) ((8 : Nat) : Int)
    rw [decide_eq_false (show ¬ ((8 : Nat) : Int) < 8 by omega), cond_false, up1_nat (by omega)] at h
    exact (H_head (f := Tryd.f19) (cuts := xC 9) (ns := []) (top := 99) hE_census_Sum_plus mixedP rfl h).trans (Goes.ren (P := Tryd.prog) (B := 1) (σ := [(0, 0)]) (nx := 4) rfl)
  | e :: l =>
    have h := x3Y P R S A G nn n c (e :: l) (e :: l).length (s : Int) (k : Int) ((8 : Nat) : Int)
    rw [decide_eq_false (show ¬ ((8 : Nat) : Int) < 8 by omega), cond_false, up1_nat (by omega)] at h
    exact (H_head (f := Tryd.f19) (cuts := xC 9) (ns := [3]) (top := 99) hE_census_Sum_plus mixedP rfl h).trans (Goes.ren (P := Tryd.prog) (B := 1) (σ := [(0, 0), (3, 3)]) (nx := 4) rfl)
/-- What the document asks of a header. -/
theorem ask_gen (p r x y : Int) (g : Bool) (s k a : Int) : (bif (bif (bif (haymowref12_Check_0 p r x y g == 0) then x == s else false) then y == a else false) then haymowref04_Of_0 (haymowref13_Words_0 p r) == k else false) = isK [s, k, a] (p, r, x, y) := by
  rw [ref_ok]
  unfold isK okHd keyH
  dsimp only
  by_cases h : OkH p r x y
  · rw [ref_words h, decide_eq_true h]
    show (bif (bif (bif true then x == s else false) then y == a else false) then cls p r == k else false) = _
    generalize cls p r = q
    simp only [cond_true, Bool.true_and, List.cons.injEq, and_true]
    by_cases h1 : x = s
    · by_cases h2 : y = a
      · by_cases h3 : q = k <;> simp [h1, h2, h3]
      · simp [h1, h2]
    · simp [h1]
  · rw [decide_eq_false h]
    simp
theorem ask_eq (P R S A : List Int) (G : List Bool) (i : Nat) (s k a : Int) : (bif (bif (bif (haymowref12_Check_0 (P.getD i 0) (R.getD i 0) (S.getD i 0) (A.getD i 0) (G.getD i false) == 0) then S.getD i 0 == s else false) then A.getD i 0 == a else false) then haymowref04_Of_0 (haymowref13_Words_0 (P.getD i 0) (R.getD i 0)) == k else false) = isK [s, k, a] (hdAt P R S A i) := ask_gen _ _ _ _ _ _ _ _
theorem ask_bounds {P R S A : List Int} {i : Nat} {k : List Int} (h : isK k (hdAt P R S A i) = true) : (0 ≤ P.getD i 0 ∧ P.getD i 0 ≤ 4095) ∧ 0 ≤ R.getD i 0 ∧ R.getD i 0 ≤ 4095 := by
  have := (isK_iff.1 h).1
  exact ⟨this.1, this.2.1⟩
theorem ask_words {P R S A : List Int} {i : Nat} {k : List Int} (h : isK k (hdAt P R S A i) = true) : haymowref13_Words_0 (P.getD i 0) (R.getD i 0) = 1 + P.getD i 0 + R.getD i 0 := ref_words (isK_iff.1 h).1
theorem g4y (P R S A : List Int) (G : List Bool) (nn : Bool) (n : Nat) (c : Option Nat) (s k a co i : Nat) (wv : Int) (l : List KV) (hi : i < n) (hn : n ≤ 4096) (hP : n ≤ P.length) (hR : n ≤ R.length) (hS : n ≤ S.length) (hA : n ≤ A.length) (hG : n ≤ G.length) (hq : isK [(s : Int), (k : Int), (a : Int)] (hdAt P R S A i) = true) (hc : co ≤ 4096) (hw : 0 ≤ wv ∧ wv ≤ 8191 * 4096) : Goes Tryd.prog 1 ⟨hd Tryd.f19 3, xT nn n c (xV l) (vi (s : Int)) (vi (k : Int)) (vi (a : Int)) (.ptr 2 1 0 0) (vi (i : Int)), ⟨[x0 P R S A G, x2 (s : Int) (k : Int) (a : Int) (co : Int) wv] ++ xB l, 4⟩⟩ ⟨hd Tryd.f19 3, xT nn n c (xV l) (vi (s : Int)) (vi (k : Int)) (vi (a : Int)) (.ptr 2 1 0 0) (vi ((i + 1 : Nat) : Int)), ⟨[x0 P R S A G, x2 (s : Int) (k : Int) (a : Int) ((co + 1 : Nat) : Int) (wv + (1 + P.getD i 0 + R.getD i 0))] ++ xB l, 4⟩⟩ := by
  match l with
  | [] =>
    have h := x4N P R S A G nn n c (s : Int) (k : Int) (a : Int) (co : Int) wv (i : Int)
    rw [decide_eq_true (show (i : Int) < Int.ofNat n by show (i : Int) < (n : Int); omega), cond_true, iz_nat, Int.toNat_natCast, decide_eq_true (show 0 ≤ (i : Int) by omega), decide_eq_true (show i < n by omega), decide_eq_true (show i < P.length by omega), decide_eq_true (show i < R.length by omega), decide_eq_true (show i < S.length by omega), decide_eq_true (show i < A.length by omega), decide_eq_true (show i < G.length by omega), up1_nat (by omega), ask_eq, hq, cond_true, ask_words hq, wr64 ((co : Int) + 1) (by omega) (by omega), wr64 (wv + _) (by have := ask_bounds hq; omega) (by have := ask_bounds hq; omega), Bool.or_true, Bool.or_true] at h
    exact (H_head (f := Tryd.f19) (cuts := xC 9) (ns := []) (top := 99) hE_census_Sum_plus mixedP rfl h).trans (Goes.ren (P := Tryd.prog) (B := 1) (σ := [(0, 0), (2, 2)]) (nx := 4) rfl)
  | e :: l =>
    have h := x4Y P R S A G nn n c (e :: l) (e :: l).length (s : Int) (k : Int) (a : Int) (co : Int) wv (i : Int)
    rw [decide_eq_true (show (i : Int) < Int.ofNat n by show (i : Int) < (n : Int); omega), cond_true, iz_nat, Int.toNat_natCast, decide_eq_true (show 0 ≤ (i : Int) by omega), decide_eq_true (show i < n by omega), decide_eq_true (show i < P.length by omega), decide_eq_true (show i < R.length by omega), decide_eq_true (show i < S.length by omega), decide_eq_true (show i < A.length by omega), decide_eq_true (show i < G.length by omega), up1_nat (by omega), ask_eq, hq, cond_true, ask_words hq, wr64 ((co : Int) + 1) (by omega) (by omega), wr64 (wv + _) (by have := ask_bounds hq; omega) (by have := ask_bounds hq; omega), Bool.or_true, Bool.or_true] at h
    exact (H_head (f := Tryd.f19) (cuts := xC 9) (ns := [3]) (top := 99) hE_census_Sum_plus mixedP rfl h).trans (Goes.ren (P := Tryd.prog) (B := 1) (σ := [(0, 0), (2, 2), (3, 3)]) (nx := 4) rfl)
theorem g4n (P R S A : List Int) (G : List Bool) (nn : Bool) (n : Nat) (c : Option Nat) (s k a co i : Nat) (wv : Int) (l : List KV) (hi : i < n) (hn : n ≤ 4096) (hP : n ≤ P.length) (hR : n ≤ R.length) (hS : n ≤ S.length) (hA : n ≤ A.length) (hG : n ≤ G.length) (hq : isK [(s : Int), (k : Int), (a : Int)] (hdAt P R S A i) = false) (hc : co ≤ 4096) (hw : 0 ≤ wv ∧ wv ≤ 8191 * 4096) : Goes Tryd.prog 1 ⟨hd Tryd.f19 3, xT nn n c (xV l) (vi (s : Int)) (vi (k : Int)) (vi (a : Int)) (.ptr 2 1 0 0) (vi (i : Int)), ⟨[x0 P R S A G, x2 (s : Int) (k : Int) (a : Int) (co : Int) wv] ++ xB l, 4⟩⟩ ⟨hd Tryd.f19 3, xT nn n c (xV l) (vi (s : Int)) (vi (k : Int)) (vi (a : Int)) (.ptr 2 1 0 0) (vi ((i + 1 : Nat) : Int)), ⟨[x0 P R S A G, x2 (s : Int) (k : Int) (a : Int) (co : Int) wv] ++ xB l, 4⟩⟩ := by
  match l with
  | [] =>
    have h := x4N P R S A G nn n c (s : Int) (k : Int) (a : Int) (co : Int) wv (i : Int)
    rw [decide_eq_true (show (i : Int) < Int.ofNat n by show (i : Int) < (n : Int); omega), cond_true, iz_nat, Int.toNat_natCast, decide_eq_true (show 0 ≤ (i : Int) by omega), decide_eq_true (show i < n by omega), decide_eq_true (show i < P.length by omega), decide_eq_true (show i < R.length by omega), decide_eq_true (show i < S.length by omega), decide_eq_true (show i < A.length by omega), decide_eq_true (show i < G.length by omega), up1_nat (by omega), ask_eq, hq, cond_false, Bool.or_true, Bool.or_true] at h
    exact (H_head (f := Tryd.f19) (cuts := xC 9) (ns := []) (top := 99) hE_census_Sum_plus mixedP rfl h).trans (Goes.ren (P := Tryd.prog) (B := 1) (σ := [(0, 0), (2, 2)]) (nx := 4) rfl)
  | e :: l =>
    have h := x4Y P R S A G nn n c (e :: l) (e :: l).length (s : Int) (k : Int) (a : Int) (co : Int) wv (i : Int)
    rw [decide_eq_true (show (i : Int) < Int.ofNat n by show (i : Int) < (n : Int); omega), cond_true, iz_nat, Int.toNat_natCast, decide_eq_true (show 0 ≤ (i : Int) by omega), decide_eq_true (show i < n by omega), decide_eq_true (show i < P.length by omega), decide_eq_true (show i < R.length by omega), decide_eq_true (show i < S.length by omega), decide_eq_true (show i < A.length by omega), decide_eq_true (show i < G.length by omega), up1_nat (by omega), ask_eq, hq, cond_false, Bool.or_true, Bool.or_true] at h
    exact (H_head (f := Tryd.f19) (cuts := xC 9) (ns := [3]) (top := 99) hE_census_Sum_plus mixedP rfl h).trans (Goes.ren (P := Tryd.prog) (B := 1) (σ := [(0, 0), (2, 2), (3, 3)]) (nx := 4) rfl)
theorem g4z (P R S A : List Int) (G : List Bool) (nn : Bool) (n : Nat) (c : Option Nat) (s k a : Nat) (wv : Int) (l : List KV) (ha : a < 8) : Goes Tryd.prog 1 ⟨hd Tryd.f19 3, xT nn n c (xV l) (vi (s : Int)) (vi (k : Int)) (vi (a : Int)) (.ptr 2 1 0 0) (vi (n : Int)), ⟨[x0 P R S A G, x2 (s : Int) (k : Int) (a : Int) ((0 : Nat) : Int) wv] ++ xB l, 4⟩⟩ ⟨hd Tryd.f19 2, xT nn n c (xV l) (vi (s : Int)) (vi (k : Int)) (vi ((a + 1 : Nat) : Int)) .unk .unk, ⟨[x0 P R S A G] ++ xB l, 4⟩⟩ := by
  match l with
  | [] =>
    have h := x4N P R S A G nn n c (s : Int) (k : Int) (a : Int) ((0 : Nat) : Int) wv (n : Int)
    rw [decide_eq_false (show ¬ (n : Int) < Int.ofNat n by show ¬ (n : Int) < (n : Int); omega), cond_false, decide_eq_false (show ¬ 0 < ((0 : Nat) : Int) by omega), cond_false, up1_nat (by omega)] at h
    exact (H_head (f := Tryd.f19) (cuts := xC 9) (ns := []) (top := 99) hE_census_Sum_plus mixedP rfl h).trans (Goes.ren (P := Tryd.prog) (B := 1) (σ := [(0, 0)]) (nx := 4) rfl)
  | e :: l =>
    have h := x4Y P R S A G nn n c (e :: l) (e :: l).length (s : Int) (k : Int) (a : Int) ((0 : Nat) : Int) wv (n : Int)
    rw [decide_eq_false (show ¬ (n : Int) < Int.ofNat n by show ¬ (n : Int) < (n : Int); omega), cond_false, decide_eq_false (show ¬ 0 < ((0 : Nat) : Int) by omega), cond_false, up1_nat (by omega)] at h
    exact (H_head (f := Tryd.f19) (cuts := xC 9) (ns := [3]) (top := 99) hE_census_Sum_plus mixedP rfl h).trans (Goes.ren (P := Tryd.prog) (B := 1) (σ := [(0, 0), (3, 3)]) (nx := 4) rfl)
theorem g4p (P R S A : List Int) (G : List Bool) (nn : Bool) (n : Nat) (c : Option Nat) (s k a co : Nat) (wv : Int) (l : List KV) (ha : a < 8) (hc : 0 < co) (hl : l.length ≤ 4000) : Goes Tryd.prog 1 ⟨hd Tryd.f19 3, xT nn n c (xV l) (vi (s : Int)) (vi (k : Int)) (vi (a : Int)) (.ptr 2 1 0 0) (vi (n : Int)), ⟨[x0 P R S A G, x2 (s : Int) (k : Int) (a : Int) (co : Int) wv] ++ xB l, 4⟩⟩ ⟨hd Tryd.f19 2, xT nn n c (xV (l ++ [([(s : Int), (k : Int), (a : Int)], [(co : Int), wv])])) (vi (s : Int)) (vi (k : Int)) (vi ((a + 1 : Nat) : Int)) .unk .unk, ⟨[x0 P R S A G] ++ xB (l ++ [([(s : Int), (k : Int), (a : Int)], [(co : Int), wv])]), 4⟩⟩ := by
  match l, hl with
  | [], _ =>
    have h := x4N P R S A G nn n c (s : Int) (k : Int) (a : Int) (co : Int) wv (n : Int)
    rw [decide_eq_false (show ¬ (n : Int) < Int.ofNat n by show ¬ (n : Int) < (n : Int); omega), cond_false, decide_eq_true (show 0 < (co : Int) by omega), cond_true, up1_nat (by omega)] at h
    exact (H_head (f := Tryd.f19) (cuts := xC 9) (ns := []) (top := 99) hE_census_Sum_plus mixedP rfl h).trans (Goes.ren (P := Tryd.prog) (B := 1) (σ := [(0, 0), (3, 5)]) (nx := 4) rfl)
  | e :: l, hl =>
    have h := x4Y P R S A G nn n c (e :: l) (e :: l).length (s : Int) (k : Int) (a : Int) (co : Int) wv (n : Int)
    have e1 : ∀ f : KV → Int, List.take (e :: l).length ((e :: l).map f) = (e :: l).map f := fun f => List.take_of_length_le (by rw [List.length_map]; omega)
    have hl' : (e :: l).length ≤ 4000 := hl
    rw [decide_eq_false (show ¬ (n : Int) < Int.ofNat n by show ¬ (n : Int) < (n : Int); omega), cond_false, decide_eq_true (show 0 < (co : Int) by omega), cond_true, up1_nat (by omega), decide_eq_true (show 0 < (e :: l).length from Nat.succ_pos _), decide_eq_true (show ((e :: l).length + 1) * 40 ≤ 140737488355328 by omega),
      List.length_map, List.length_map, List.length_map, List.length_map, List.length_map, decide_eq_true (Nat.le_refl (e :: l).length), e1, e1, e1, e1, e1] at h
    have g := (H_head (f := Tryd.f19) (cuts := xC 9) (ns := [3]) (top := 99) hE_census_Sum_plus mixedP rfl h).trans (Goes.ren (P := Tryd.prog) (B := 1) (σ := [(0, 0), (3, 5)]) (nx := 4) rfl)
    have e2 : ∀ (f : KV → Int) (x : KV), (e :: l).map f ++ [f x] = (e :: l ++ [x]).map f := fun f x => by rw [List.map_append]; rfl
    have e3 : (e :: l).length + 1 = (e :: l ++ [([(s : Int), (k : Int), (a : Int)], [(co : Int), wv])]).length := by simp
    have q := e2 kA ([(s : Int), (k : Int), (a : Int)], [(co : Int), wv])
    have q1 := e2 kB ([(s : Int), (k : Int), (a : Int)], [(co : Int), wv])
    have q2 := e2 kC ([(s : Int), (k : Int), (a : Int)], [(co : Int), wv])
    have q3 := e2 kD ([(s : Int), (k : Int), (a : Int)], [(co : Int), wv])
    have q4 := e2 kE ([(s : Int), (k : Int), (a : Int)], [(co : Int), wv])
    simp only [kA, kB, kC, kD, kE, List.headD_cons, List.tail_cons] at q q1 q2 q3 q4
    have gg : ∀ (c0 c1 c2 c3 c4 : List Int) (z : Nat), c0 = (e :: l ++ [([(s : Int), (k : Int), (a : Int)], [(co : Int), wv])]).map kA → c1 = (e :: l ++ [([(s : Int), (k : Int), (a : Int)], [(co : Int), wv])]).map kB → c2 = (e :: l ++ [([(s : Int), (k : Int), (a : Int)], [(co : Int), wv])]).map kC → c3 = (e :: l ++ [([(s : Int), (k : Int), (a : Int)], [(co : Int), wv])]).map kD → c4 = (e :: l ++ [([(s : Int), (k : Int), (a : Int)], [(co : Int), wv])]).map kE →
        z = (e :: l ++ [([(s : Int), (k : Int), (a : Int)], [(co : Int), wv])]).length →
        Goes Tryd.prog 1 ⟨hd Tryd.f19 3, xT nn n c (xV (e :: l)) (vi (s : Int)) (vi (k : Int)) (vi (a : Int)) (.ptr 2 1 0 0) (vi (n : Int)), ⟨[x0 P R S A G, x2 (s : Int) (k : Int) (a : Int) (co : Int) wv] ++ xB (e :: l), 4⟩⟩ ⟨hd Tryd.f19 2, xT nn n c (.sl true 3 5 0 1 z none) (vi (s : Int)) (vi (k : Int)) (vi ((a + 1 : Nat) : Int)) .unk .unk, ⟨[x0 P R S A G, (3, some ⟨true, true, .rows [.ints .i64 c0, .ints .i64 c1, .ints .i64 c2, .ints .i64 c3, .ints .i64 c4]⟩)], 4⟩⟩ →
        Goes Tryd.prog 1 ⟨hd Tryd.f19 3, xT nn n c (xV (e :: l)) (vi (s : Int)) (vi (k : Int)) (vi (a : Int)) (.ptr 2 1 0 0) (vi (n : Int)), ⟨[x0 P R S A G, x2 (s : Int) (k : Int) (a : Int) (co : Int) wv] ++ xB (e :: l), 4⟩⟩ ⟨hd Tryd.f19 2, xT nn n c (xV (e :: l ++ [([(s : Int), (k : Int), (a : Int)], [(co : Int), wv])])) (vi (s : Int)) (vi (k : Int)) (vi ((a + 1 : Nat) : Int)) .unk .unk, ⟨[x0 P R S A G] ++ xB (e :: l ++ [([(s : Int), (k : Int), (a : Int)], [(co : Int), wv])]), 4⟩⟩ := fun c0 c1 c2 c3 c4 z h0 h1 h2 h3 h4 hz hg => by subst h0 h1 h2 h3 h4 hz; exact hg
    exact gg _ _ _ _ _ _ q q1 q2 q3 q4 e3 g
def rowV (k : List Int) (c : Nat) (w : Int) : List KV := if c = 0 then [] else [(k, [(c : Int), w])]
theorem cnt_yes {k : List Int} {h : Hd} (hh : isK k h = true) (H : List Hd) : cnt k (h :: H) = 1 + cnt k H ∧ wrd k (h :: H) = 1 + h.1 + h.2.1 + wrd k H := by
  simp [cnt, wrd, hh]
theorem cnt_no {k : List Int} {h : Hd} (hh : isK k h = false) (H : List Hd) : cnt k (h :: H) = cnt k H ∧ wrd k (h :: H) = wrd k H := by
  simp [cnt, wrd, hh]
/-- All headers gone over, for one kind. -/
theorem xl4 (P R S A : List Int) (G : List Bool) (nn : Bool) (n : Nat) (c : Option Nat) (hn : n ≤ 4096) (hP : n ≤ P.length) (hR : n ≤ R.length) (hS : n ≤ S.length) (hA : n ≤ A.length) (hG : n ≤ G.length) (s k a : Nat) (ha : a < 8) (l : List KV) (hl : l.length ≤ 4000) : ∀ (j i co : Nat) (wv : Int), i + j = n → co + j ≤ n → 0 ≤ wv → wv ≤ 8191 * co →
    Goes Tryd.prog 1 ⟨hd Tryd.f19 3, xT nn n c (xV l) (vi (s : Int)) (vi (k : Int)) (vi (a : Int)) (.ptr 2 1 0 0) (vi (i : Int)), ⟨[x0 P R S A G, x2 (s : Int) (k : Int) (a : Int) (co : Int) wv] ++ xB l, 4⟩⟩ ⟨hd Tryd.f19 2, xT nn n c (xV (l ++ rowV [(s : Int), (k : Int), (a : Int)] (co + cnt [(s : Int), (k : Int), (a : Int)] (hdI P R S A i j)) (wv + wrd [(s : Int), (k : Int), (a : Int)] (hdI P R S A i j)))) (vi (s : Int)) (vi (k : Int)) (vi ((a + 1 : Nat) : Int)) .unk .unk, ⟨[x0 P R S A G] ++ xB (l ++ rowV [(s : Int), (k : Int), (a : Int)] (co + cnt [(s : Int), (k : Int), (a : Int)] (hdI P R S A i j)) (wv + wrd [(s : Int), (k : Int), (a : Int)] (hdI P R S A i j))), 4⟩⟩
  | 0, i, co, wv, hi, hc, h0, h1 => by
    have e : n = i := by omega
    subst e
    have e0 : hdI P R S A n 0 = [] := rfl
    rw [e0]
    show Goes Tryd.prog 1 _ ⟨hd Tryd.f19 2, xT nn n c (xV (l ++ rowV [(s : Int), (k : Int), (a : Int)] (co + 0) (wv + 0))) (vi (s : Int)) (vi (k : Int)) (vi ((a + 1 : Nat) : Int)) .unk .unk, ⟨[x0 P R S A G] ++ xB (l ++ rowV [(s : Int), (k : Int), (a : Int)] (co + 0) (wv + 0)), 4⟩⟩
    by_cases hz : co = 0
    · subst hz
      have ez : ∀ w : Int, rowV [(s : Int), (k : Int), (a : Int)] 0 w = [] := fun w => rfl
      rw [Int.add_zero, Nat.add_zero, ez, List.append_nil]
      exact g4z P R S A G nn n c s k a wv l ha
    · have ez : rowV [(s : Int), (k : Int), (a : Int)] co wv = [([(s : Int), (k : Int), (a : Int)], [(co : Int), wv])] := if_neg hz
      rw [Int.add_zero, Nat.add_zero, ez]
      exact g4p P R S A G nn n c s k a co wv l ha (by omega) hl
  | j + 1, i, co, wv, hi, hc, h0, h1 => by
    rw [hdI_succ]
    cases hq : isK [(s : Int), (k : Int), (a : Int)] (hdAt P R S A i) with
    | true =>
      have hk := ask_bounds hq
      have g := (g4y P R S A G nn n c s k a co i wv l (by omega) hn hP hR hS hA hG hq (by omega) ⟨h0, by omega⟩).trans (xl4 P R S A G nn n c hn hP hR hS hA hG s k a ha l hl j (i + 1) (co + 1) (wv + (1 + P.getD i 0 + R.getD i 0)) (by omega) (by omega) (by omega) (by omega))
      obtain ⟨y1, y2⟩ := cnt_yes hq (hdI P R S A (i + 1) j)
      rw [y1, y2]
      have e1 : co + 1 + cnt [(s : Int), (k : Int), (a : Int)] (hdI P R S A (i + 1) j) = co + (1 + cnt [(s : Int), (k : Int), (a : Int)] (hdI P R S A (i + 1) j)) := by omega
      have e2 : wv + (1 + P.getD i 0 + R.getD i 0) + wrd [(s : Int), (k : Int), (a : Int)] (hdI P R S A (i + 1) j) = wv + (1 + P.getD i 0 + R.getD i 0 + wrd [(s : Int), (k : Int), (a : Int)] (hdI P R S A (i + 1) j)) := by omega
      rw [e1, e2] at g
      exact g
    | false =>
      have g := (g4n P R S A G nn n c s k a co i wv l (by omega) hn hP hR hS hA hG hq (by omega) ⟨h0, by omega⟩).trans (xl4 P R S A G nn n c hn hP hR hS hA hG s k a ha l hl j (i + 1) co wv (by omega) (by omega) h0 h1)
      obtain ⟨y1, y2⟩ := cnt_no hq (hdI P R S A (i + 1) j)
      rw [y1, y2]
      exact g
theorem rowK_len (H : List Hd) (k : List Int) : (rowK H k).length ≤ 1 := by
  unfold rowK
  split <;> simp
theorem rfA_succ (H : List Hd) (s c : Int) (i j : Nat) : rfA H s c i (j + 1) = rowK H [s, c, (i : Int)] ++ rfA H s c (i + 1) j := by simp [rfA, List.range'_succ]
theorem rfC_succ (H : List Hd) (s : Int) (i j : Nat) : rfC H s i (j + 1) = rfA H s (i : Int) 0 8 ++ rfC H s (i + 1) j := by simp [rfC, List.range'_succ]
theorem rfS_succ (H : List Hd) (i j : Nat) : rfS H i (j + 1) = rfC H (i : Int) 0 14 ++ rfS H (i + 1) j := by simp [rfS, List.range'_succ]
theorem rfA_len (H : List Hd) (s c : Int) : ∀ (j i : Nat), (rfA H s c i j).length ≤ j
  | 0, _ => Nat.le_refl _
  | j + 1, i => by
    rw [rfA_succ, List.length_append]
    have := rowK_len H [s, c, (i : Int)]
    have := rfA_len H s c j (i + 1)
    omega
theorem rfC_len (H : List Hd) (s : Int) : ∀ (j i : Nat), (rfC H s i j).length ≤ 8 * j
  | 0, _ => Nat.le_refl _
  | j + 1, i => by
    rw [rfC_succ, List.length_append]
    have := rfA_len H s (i : Int) 8 0
    have := rfC_len H s j (i + 1)
    omega
theorem rfS_len (H : List Hd) : ∀ (j i : Nat), (rfS H i j).length ≤ 112 * j
  | 0, _ => Nat.le_refl _
  | j + 1, i => by
    rw [rfS_succ, List.length_append]
    have := rfC_len H (i : Int) 14 0
    have := rfS_len H j (i + 1)
    omega
theorem xl3 (P R S A : List Int) (G : List Bool) (nn : Bool) (n : Nat) (c : Option Nat) (hn : n ≤ 4096) (hP : n ≤ P.length) (hR : n ≤ R.length) (hS : n ≤ S.length) (hA : n ≤ A.length) (hG : n ≤ G.length) (s k : Nat) (hk : k < 14) : ∀ (j a : Nat) (l : List KV), a + j = 8 → l.length + j ≤ 4000 →
    Goes Tryd.prog 1 ⟨hd Tryd.f19 2, xT nn n c (xV l) (vi (s : Int)) (vi (k : Int)) (vi (a : Int)) .unk .unk, ⟨[x0 P R S A G] ++ xB l, 4⟩⟩ ⟨hd Tryd.f19 1, xT nn n c (xV (l ++ rfA (hdI P R S A 0 n) (s : Int) (k : Int) a j)) (vi (s : Int)) (vi ((k + 1 : Nat) : Int)) .unk .unk .unk, ⟨[x0 P R S A G] ++ xB (l ++ rfA (hdI P R S A 0 n) (s : Int) (k : Int) a j), 4⟩⟩
  | 0, a, l, hi, hl => by
    have e : a = 8 := by omega
    subst e
    have e0 : rfA (hdI P R S A 0 n) (s : Int) (k : Int) 8 0 = [] := rfl
    rw [e0, List.append_nil]
    exact g3e P R S A G nn n c s k l hk
  | j + 1, a, l, hi, hl => by
    have g := (g3 P R S A G nn n c s k a l (by omega)).trans (xl4 P R S A G nn n c hn hP hR hS hA hG s k a (by omega) l (by omega) n 0 0 0 (by omega) (by omega) (by omega) (by omega))
    rw [rfA_succ, ← List.append_assoc]
    have hr := rowK_len (hdI P R S A 0 n) [(s : Int), (k : Int), (a : Int)]
    have g2 := xl3 P R S A G nn n c hn hP hR hS hA hG s k hk j (a + 1) (l ++ rowK (hdI P R S A 0 n) [(s : Int), (k : Int), (a : Int)]) (by omega) (by rw [List.length_append]; omega)
    refine Goes.trans ?_ g2
    simp only [Nat.zero_add, Int.zero_add] at g
    exact g
theorem xl2 (P R S A : List Int) (G : List Bool) (nn : Bool) (n : Nat) (c : Option Nat) (hn : n ≤ 4096) (hP : n ≤ P.length) (hR : n ≤ R.length) (hS : n ≤ S.length) (hA : n ≤ A.length) (hG : n ≤ G.length) (s : Nat) (hs : s < 32) : ∀ (j k : Nat) (l : List KV), k + j = 14 → l.length + 8 * j ≤ 4000 →
    Goes Tryd.prog 1 ⟨hd Tryd.f19 1, xT nn n c (xV l) (vi (s : Int)) (vi (k : Int)) .unk .unk .unk, ⟨[x0 P R S A G] ++ xB l, 4⟩⟩ ⟨hd Tryd.f19 0, xT nn n c (xV (l ++ rfC (hdI P R S A 0 n) (s : Int) k j)) (vi ((s + 1 : Nat) : Int)) .unk .unk .unk .unk, ⟨[x0 P R S A G] ++ xB (l ++ rfC (hdI P R S A 0 n) (s : Int) k j), 4⟩⟩
  | 0, k, l, hi, hl => by
    have e : k = 14 := by omega
    subst e
    have e0 : rfC (hdI P R S A 0 n) (s : Int) 14 0 = [] := rfl
    rw [e0, List.append_nil]
    exact g2e P R S A G nn n c s l hs
  | j + 1, k, l, hi, hl => by
    have g := (g2 P R S A G nn n c s k l (by omega)).trans (xl3 P R S A G nn n c hn hP hR hS hA hG s k (by omega) 8 0 l (by omega) (by omega))
    rw [rfC_succ, ← List.append_assoc]
    have hr := rfA_len (hdI P R S A 0 n) (s : Int) (k : Int) 8 0
    exact g.trans (xl2 P R S A G nn n c hn hP hR hS hA hG s hs j (k + 1) (l ++ rfA (hdI P R S A 0 n) (s : Int) (k : Int) 0 8) (by omega) (by rw [List.length_append]; omega))
theorem xl1 (P R S A : List Int) (G : List Bool) (nn : Bool) (n : Nat) (c : Option Nat) (hn : n ≤ 4096) (hP : n ≤ P.length) (hR : n ≤ R.length) (hS : n ≤ S.length) (hA : n ≤ A.length) (hG : n ≤ G.length) : ∀ (j s : Nat) (l : List KV), s + j = 32 → l.length + 112 * j ≤ 4000 →
    Gives_ Tryd.prog Tryd.f19 1 ⟨hd Tryd.f19 0, xT nn n c (xV l) (vi (s : Int)) .unk .unk .unk .unk, ⟨[x0 P R S A G] ++ xB l, 4⟩⟩ (xV (l ++ rfS (hdI P R S A 0 n) s j)) ⟨xB (l ++ rfS (hdI P R S A 0 n) s j), 99⟩
  | 0, s, l, hi, hl => by
    have e : s = 32 := by omega
    subst e
    have e0 : rfS (hdI P R S A 0 n) 32 0 = [] := rfl
    rw [e0, List.append_nil]
    match l with
    | [] =>
      have h := x1N P R S A G nn n c ((32 : Nat) : Int)
      rw [decide_eq_false (show ¬ ((32 : Nat) : Int) < 32 by omega), cond_false] at h
      exact H_ret (f := Tryd.f19) (cuts := xC 9) (ns := []) (top := 99) hE_census_Sum_plus mixedP rfl h
    | e :: l =>
      have h := x1Y P R S A G nn n c (e :: l) (e :: l).length ((32 : Nat) : Int)
      rw [decide_eq_false (show ¬ ((32 : Nat) : Int) < 32 by omega), cond_false] at h
      exact H_ret (f := Tryd.f19) (cuts := xC 9) (ns := [3]) (top := 99) hE_census_Sum_plus mixedP rfl h
  | j + 1, s, l, hi, hl => by
    have g := (g1 P R S A G nn n c s l (by omega)).trans (xl2 P R S A G nn n c hn hP hR hS hA hG s (by omega) 14 0 l (by omega) (by omega))
    rw [rfS_succ, ← List.append_assoc]
    have hr := rfC_len (hdI P R S A 0 n) (s : Int) 14 0
    exact g.gives (xl1 P R S A G nn n c hn hP hR hS hA hG j (s + 1) (l ++ rfC (hdI P R S A 0 n) (s : Int) 0 14) (by omega) (by rw [List.length_append]; omega))
theorem x_all (P R S A : List Int) (G : List Bool) (nn : Bool) (n : Nat) (c : Option Nat) (hn : n ≤ 4096) (hP : n ≤ P.length) (hR : n ≤ R.length) (hS : n ≤ S.length) (hA : n ≤ A.length) (hG : n ≤ G.length) : Gives_ Tryd.prog Tryd.f19 1 (enterA Tryd.f19 (bodyOf Tryd.f19) [.sl nn 0 5 0 1 n c] ⟨[x0 P R S A G], 1⟩) (xV (RF (hdI P R S A 0 n))) ⟨xB (RF (hdI P R S A 0 n)), 99⟩ :=
  Goes.gives ((F_head (f := Tryd.f19) (c := bodyOf Tryd.f19) (m := ⟨[x0 P R S A G], 1⟩) (cuts := xC 9) (ns := []) (top := 99) hE_census_Sum_plus mixedP rfl rfl (xiN P R S A G nn n c)).trans (Goes.ren (P := Tryd.prog) (B := 1) (σ := [(0, 0)]) (nx := 4) rfl)) (xl1 P R S A G nn n c hn hP hR hS hA hG 32 0 [] (by omega) (by simp))
def e_rrows : Spec := fun m args => match args with
  | [.sl _ l 5 0 1 n _] => match look m.bl l with
    | some ⟨_, _, .rows [.ints .i64 P, .ints .i64 R, .ints .i64 S, .ints .i64 A, .bools G]⟩ => some (.sl false m.nx 5 0 1 (RF (hdI P R S A 0 n)).length none, some ⟨(m.nx, some ⟨false, false, .rows (colsF fs5 (RF (hdI P R S A 0 n)))⟩) :: m.bl, m.nx + 1⟩,
        [Nat.ble n 4096, Nat.ble n P.length, Nat.ble n R.length, Nat.ble n S.length, Nat.ble n A.length, Nat.ble n G.length])
    | _ => none
  | _ => none
theorem ok_rrows : SpecOk Tryd.prog 19 e_rrows := fun m args v mo bs h hb => by
  unfold e_rrows at h
  split at h
  · rename_i nn l n cap
    split at h <;> cases h
    rename_i wr op P R S A G hl
    simp only [List.all_cons, List.all_nil, id, Bool.and_true, Bool.and_eq_true] at hb
    obtain ⟨h2, h3, h4, h5, h6, h7⟩ := hb
    have g := x_all P R S A G false n none (Nat.le_of_ble_eq_true h2) (Nat.le_of_ble_eq_true h3) (Nat.le_of_ble_eq_true h4) (Nat.le_of_ble_eq_true h5) (Nat.le_of_ble_eq_true h6) (Nat.le_of_ble_eq_true h7)
    refine lift_list (m1 := ⟨[x0 P R S A G], 1⟩) (args1 := [.sl false 0 5 0 1 n none]) rfl rfl rfl (sim_sl (br := []) hl rfl rfl rfl) ?_
    generalize RF (hdI P R S A 0 n) = L at g
    match L with
    | [] =>
      refine .inl ⟨rfl, fun r c' a ha => ?_, _, fsound (c := bodyOf Tryd.f19) (fun xs w => Tryd.call19 xs w) Tryd.func19 rfl g⟩
      match c', ha with
      | 0, ha => simp [Cont.at, Col.at, colsF] at ha
      | 1, ha => simp [Cont.at, Col.at, colsF] at ha
      | 2, ha => simp [Cont.at, Col.at, colsF] at ha
      | 3, ha => simp [Cont.at, Col.at, colsF] at ha
      | 4, ha => simp [Cont.at, Col.at, colsF] at ha
      | c' + 5, ha => cases ha
    | e :: L => exact .inr ⟨_, _, _, _, _, _, rfl, says_self rfl, fsound (c := bodyOf Tryd.f19) (fun xs w => Tryd.call19 xs w) Tryd.func19 rfl g⟩
  · cases h
end Go.Proofs.YtbjealobiblabaaDoor

namespace Go.Proofs.YtbjealobiblabaaDoor
open Go Go.Shelf
def Tryd.lays162_ren : Ren :=
{
  f := fun x =>
    match x with
    | 162 => 42
    | 232 => 61
    | 227 => 62
    | 234 => 63
    | 236 => 64
    | 228 => 75
    | 271 => 76
    | 151 => 77
    | 120 => 90
    | 197 => 91
    | 152 => 92
    | 260 => 98
    | 137 => 99
    | 119 => 100
    | 224 => 101
    | 225 => 102
    | 217 => 104
    | 266 => 105
    | n => n,
  t := fun x =>
    match x with
    | 9 => 9
    | 4 => 4
    | 3 => 3
    | 5 => 5
    | 117 => 113
    | 116 => 112
    | 0 => 0
    | 124 => 116
    | 21 => 21
    | 105 => 129
    | 46 => 95
    | 119 => 156
    | 139 => 159
    | 138 => 158
    | n => n,
  g := fun x =>
    match x with
    | 3 => 1
    | 4 => 2
    | n => n }
theorem Tryd.lays162 : Lays.n162 Tryd.prog Tryd.lays162_ren :=
{ mixed := by kernel_rfl, f119 := (Tryd.func100).trans (congrArg some (by kernel_rfl)),
  f120 := (Tryd.func90).trans (congrArg some (by kernel_rfl)),
  f137 := (Tryd.func99).trans (congrArg some (by kernel_rfl)),
  f151 := (Tryd.func77).trans (congrArg some (by kernel_rfl)),
  f152 := (Tryd.func92).trans (congrArg some (by kernel_rfl)),
  f162 := (Tryd.func42).trans (congrArg some (by kernel_rfl)),
  f197 := (Tryd.func91).trans (congrArg some (by kernel_rfl)),
  f217 := (Tryd.func104).trans (congrArg some (by kernel_rfl)),
  f224 := (Tryd.func101).trans (congrArg some (by kernel_rfl)),
  f225 := (Tryd.func102).trans (congrArg some (by kernel_rfl)),
  f227 := (Tryd.func62).trans (congrArg some (by kernel_rfl)),
  f228 := (Tryd.func75).trans (congrArg some (by kernel_rfl)),
  f232 := (Tryd.func61).trans (congrArg some (by kernel_rfl)),
  f234 := (Tryd.func63).trans (congrArg some (by kernel_rfl)),
  f236 := (Tryd.func64).trans (congrArg some (by kernel_rfl)),
  f260 := (Tryd.func98).trans (congrArg some (by kernel_rfl)),
  f266 := (Tryd.func105).trans (congrArg some (by kernel_rfl)),
  f271 := (Tryd.func76).trans (congrArg some (by kernel_rfl)), t0 := Tryd.underlying0,
  a0 := Tryd.isAgg0, z0 := Tryd.sizeOf0, v0 := Tryd.zeroValue0, t3 := Tryd.underlying3, a3 := Tryd.isAgg3,
  z3 := Tryd.sizeOf3, v3 := Tryd.zeroValue3, t4 := Tryd.underlying4, a4 := Tryd.isAgg4, z4 := Tryd.sizeOf4,
  v4 := Tryd.zeroValue4, t5 := Tryd.underlying5, a5 := Tryd.isAgg5, z5 := Tryd.sizeOf5, v5 := Tryd.zeroValue5,
  t9 := Tryd.underlying9, a9 := Tryd.isAgg9, z9 := Tryd.sizeOf9, v9 := Tryd.zeroValue9, t21 := Tryd.underlying21,
  a21 := Tryd.isAgg21, z21 := Tryd.sizeOf21, v21 := Tryd.zeroValue21, t46 := Tryd.underlying95, a46 := Tryd.isAgg95,
  z46 := Tryd.sizeOf95, v46 := Tryd.zeroValue95, t105 := Tryd.underlying129, a105 := Tryd.isAgg129,
  z105 := Tryd.sizeOf129, v105 := Tryd.zeroValue129, t116 := Tryd.underlying112, a116 := Tryd.isAgg112,
  z116 := Tryd.sizeOf112, t117 := Tryd.underlying113, a117 := Tryd.isAgg113, z117 := Tryd.sizeOf113,
  v117 := Tryd.zeroValue113, t119 := Tryd.underlying156, a119 := Tryd.isAgg156, z119 := Tryd.sizeOf156,
  t124 := Tryd.underlying116, a124 := Tryd.isAgg116, z124 := Tryd.sizeOf116, v124 := Tryd.zeroValue116,
  t138 := Tryd.underlying158, a138 := Tryd.isAgg158, z138 := Tryd.sizeOf158, v138 := Tryd.zeroValue158,
  t139 := Tryd.underlying159, a139 := Tryd.isAgg159, z139 := Tryd.sizeOf159, v139 := Tryd.zeroValue159,
  g3 := by kernel_rfl, g4 := by kernel_rfl }
def Tryd.lays212_ren : Ren :=
{
  f := fun x =>
    match x with
    | 212 => 45
    | 263 => 65
    | 264 => 66
    | n => n,
  t := fun x =>
    match x with
    | 46 => 95
    | 51 => 117
    | 146 => 118
    | 53 => 105
    | 148 => 120
    | n => n,
  g := fun x => x }
theorem Tryd.lays212 : Lays.n212 Tryd.prog Tryd.lays212_ren :=
{ mixed := by kernel_rfl, f212 := (Tryd.func45).trans (congrArg some (by kernel_rfl)),
  f263 := (Tryd.func65).trans (congrArg some (by kernel_rfl)),
  f264 := (Tryd.func66).trans (congrArg some (by kernel_rfl)), t46 := Tryd.underlying95,
  a46 := Tryd.isAgg95, z46 := Tryd.sizeOf95, v46 := Tryd.zeroValue95, t51 := Tryd.underlying117, a51 := Tryd.isAgg117,
  z51 := Tryd.sizeOf117, v51 := Tryd.zeroValue117, t53 := Tryd.underlying105, a53 := Tryd.isAgg105,
  z53 := Tryd.sizeOf105, v53 := Tryd.zeroValue105, t146 := Tryd.underlying118, a146 := Tryd.isAgg118,
  z146 := Tryd.sizeOf118, v146 := Tryd.zeroValue118, t148 := Tryd.underlying120, a148 := Tryd.isAgg120,
  z148 := Tryd.sizeOf120, v148 := Tryd.zeroValue120 }
end Go.Proofs.YtbjealobiblabaaDoor

namespace Go.Proofs.YtbjealobiblabaaDoor
open Go Go.RowKit Go.Shelf
set_option maxRecDepth 100000
theorem mixedY : MixedOk Tryd.prog := by unfold MixedOk; kernel_rfl
theorem lenBs (s : ByteArray) : lenB s = s.size := by unfold lenB; rw [Array.length_toList]; rfl
theorem bytes_ext {a b : ByteArray} (h : a.data.toList = b.data.toList) : a = b := by
  obtain ⟨⟨a⟩⟩ := a; obtain ⟨⟨b⟩⟩ := b
  have h : a = b := h
  rw [h]
abbrev blk (s : ByteArray) (k : Nat) : ByteArray := ⟨⟨s.data.toList ++ List.replicate k 32⟩⟩
/-- So many blanks. -/
def spc (c : Int) : ByteArray := ⟨⟨List.replicate c.toNat 32⟩⟩
def sp128 : ByteArray := ⟨⟨List.replicate 128 32⟩⟩
abbrev spx : ByteArray := ⟨⟨[32]⟩⟩
-- math/bits.Mul by one
def e_mul1 : Spec := fun _ args => match args with
  | [.val (.int .u64 1), .val (.int .u64 c)] => some (.tup [.val (.int .u64 0), .val (.int .u64 c)], none, [decide (0 ≤ c), decide (c ≤ 9223372036854775807)])
  | _ => none
theorem ok_mul1 : SpecOk Tryd.prog 45 e_mul1 := fun m args v mo bs h hb => by
  unfold e_mul1 at h
  split at h <;> try cases h
  rename_i c
  simp only [List.all_cons, List.all_nil, id, Bool.and_true, Bool.and_eq_true, decide_eq_true_eq] at hb
  obtain ⟨a, rfl⟩ := Int.eq_ofNat_of_zero_le hb.1
  refine calls_fn (fun xs w => Tryd.call45 xs w) fun ρ xs w hx => ?_
  simp only [AV.rels, AV.rel] at hx
  obtain ⟨_, _, rfl, rfl, _, _, rfl, rfl, rfl⟩ := hx
  refine Calls.mono (Any.bits_Mul Tryd.lays212 1 a (by decide) (by omega) w) ?_
  rintro e w' ⟨rfl, rfl⟩
  refine ⟨⟨_, rfl, ?_⟩, rfl⟩
  simp only [AV.rel, AV.rels]
  have e1 : 1 * a / 18446744073709551616 = 0 := Nat.div_eq_of_lt (by omega)
  have e2 : 1 * a % 18446744073709551616 = a := by omega
  rw [e1, e2]
  exact ⟨_, rfl, _, _, rfl, rfl, _, _, rfl, rfl, rfl⟩
-- strings.HasPrefix: blanks
def e_hp : Spec := fun _ args => match args with
  | [.val (.string a), .val (.string b)] => some (vb true, none, [decide (a = sp128), decide (b = spx)])
  | _ => none
theorem hp_run : F_ Tryd.prog [(67, inl Tryd.prog [] Tryd.f67)] Tryd.f46 [] [] 99 [vs sp128, vs spx] ⟨[], 0⟩ = some (.ret (vb true) ⟨[], 99⟩ true) := by kernel_rfl
theorem ok_hp : SpecOk Tryd.prog 46 e_hp := fun m args v mo bs h hb => by
  unfold e_hp at h
  split at h <;> try cases h
  simp only [List.all_cons, List.all_nil, id, Bool.and_true, Bool.and_eq_true, decide_eq_true_eq] at hb
  obtain ⟨rfl, rfl⟩ := hb
  exact lift_ground (m1' := ⟨[], 99⟩) (fsound (c := bodyOf Tryd.f46) (fun xs w => Tryd.call46 xs w) Tryd.func46 rfl
    (F_ret (env_cons (inl_ok (c := bodyOf Tryd.f67) env_nil mixedY (fun xs w => Tryd.call67 xs w) Tryd.func67 rfl) env_nil) mixedY rfl rfl hp_run)) rfl rfl
-- strings.Repeat: blanks
abbrev L_rp : List (FuncId × Spec) := [(45, e_mul1), (46, e_hp)]
theorem hE_rp : ESound Tryd.prog (envOf L_rp) := env_cons ok_mul1 (env_cons ok_hp env_nil)
def e_rep : Spec := fun _ args => match args with
  | [.val (.string s), .val (.int .i64 c)] => some (vs (spc c), none, [decide (s = spx), decide (0 ≤ c), decide (c ≤ 128)])
  | _ => none
theorem rp_0 (c : Int) : FO_ Tryd.prog L_rp Tryd.f26 [] [] 99 [1] [vs spx, vi c] ⟨[], 0⟩ = some (.ret (vs ⟨⟨[]⟩⟩) ⟨[], 99⟩ (conj [c == 0])) := by kernel_rfl
theorem rp_1 (c : Int) : FO_ Tryd.prog L_rp Tryd.f26 [] [] 99 [0, 1] [vs spx, vi c] ⟨[], 0⟩ = some (.ret (vs spx) ⟨[], 99⟩ (conj [!c == 0, c == 1])) := by kernel_rfl
theorem rp_2 (c : Int) : FO_ Tryd.prog L_rp Tryd.f26 [] [] 99 [0, 0, 0, 0, 0, 1, 1, 1] [vs spx, vi c] ⟨[], 0⟩ = some (.ret (vs (sp128.extract 0 (IntKind.i64.wrap (IntKind.u64.wrap c)).toNat)) ⟨[], 99⟩ (conj [!c == 0, !c == 1, !decide (c < 0), decide (0 ≤ IntKind.u64.wrap c), decide (IntKind.u64.wrap c ≤ 9223372036854775807), !decide (9223372036854775807 < IntKind.u64.wrap c), !decide (IntKind.i64.wrap (IntKind.u64.wrap c) ≤ 128) || true, !decide (IntKind.i64.wrap (IntKind.u64.wrap c) ≤ 128) || true, (bif decide (IntKind.i64.wrap (IntKind.u64.wrap c) ≤ 128) then true else false), decide (0 ≤ IntKind.i64.wrap (IntKind.u64.wrap c)), decide (IntKind.i64.wrap (IntKind.u64.wrap c) ≤ 128)])) := by kernel_rfl
theorem ext_list (s : ByteArray) (n : Nat) : (s.extract 0 n).data.toList = s.data.toList.take n := by
  simp [ByteArray.extract, ByteArray.copySlice]
theorem sp_all {c : Int} (h : c ≤ 128) : sp128.extract 0 c.toNat = spc c := by
  apply bytes_ext
  rw [ext_list]
  show List.take c.toNat (List.replicate 128 32) = List.replicate c.toNat 32
  rw [List.take_replicate, Nat.min_eq_left (by omega)]
theorem conj_ty : ∀ {l : List Bool}, l.all id = true → conj l = true
  | [], _ => rfl
  | b :: r, h => by
    obtain ⟨h1, h2⟩ := all_cons h
    have h1 : b = true := h1
    rw [conj, h1, conj_ty h2]; rfl
theorem wrapU {c : Int} (h : 0 ≤ c) (h' : c ≤ 9223372036854775807) : IntKind.u64.wrap c = c := by
  show c % (18446744073709551616 : Int) = c
  exact Int.emod_eq_of_lt h (by omega)
theorem wrapI {c : Int} (h : -9223372036854775808 ≤ c) (h' : c ≤ 9223372036854775807) : IntKind.i64.wrap c = c := IntWalk.i64_in c ⟨h, h'⟩
theorem ok_rep : SpecOk Tryd.prog 26 e_rep := fun m args v mo bs h hb => by
  unfold e_rep at h
  split at h <;> try cases h
  rename_i s c
  simp only [List.all_cons, List.all_nil, id, Bool.and_true, Bool.and_eq_true, decide_eq_true_eq] at hb
  obtain ⟨rfl, h0, h1⟩ := hb
  have key : Gives_ Tryd.prog Tryd.f26 0 (enterA Tryd.f26 (bodyOf Tryd.f26) [vs spx, vi c] ⟨[], 0⟩) (vs (spc c)) ⟨[], 99⟩ := by
    by_cases c0 : c = 0
    · subst c0
      exact FO_ret (c := bodyOf Tryd.f26) hE_rp mixedY rfl rfl (rp_0 0) rfl
    · by_cases c1 : c = 1
      · subst c1
        exact FO_ret (c := bodyOf Tryd.f26) hE_rp mixedY rfl rfl (rp_1 1) rfl
      · have h := rp_2 c
        rw [wrapU h0 (by omega), wrapI (by omega) (by omega)] at h
        rw [sp_all h1] at h
        refine FO_ret (c := bodyOf Tryd.f26) hE_rp mixedY rfl rfl h (conj_ty ?_)
        simp [c0, c1, show ¬ c < 0 by omega, show c ≤ 9223372036854775807 by omega, h0, h1, show ¬ 9223372036854775807 < c by omega]
  exact lift_ground (m1' := ⟨[], 99⟩) (fsound (c := bodyOf Tryd.f26) (fun xs w => Tryd.call26 xs w) Tryd.func26 rfl key) rfl rfl
/-- A text, blanks behind it. -/
def padB (s : ByteArray) (n : Int) : ByteArray := ⟨⟨s.data.toList ++ List.replicate (n - s.size).toNat 32⟩⟩
def e_pad : Spec := fun _ args => match args with
  | [.val (.string s), .val (.int .i64 n)] => some (vs (padB s n), none, [decide (s.size ≤ 1000000000), decide (-1000000000 ≤ n), decide (n - s.size ≤ 128)])
  | _ => none
abbrev L_pad : List (FuncId × Spec) := [(26, e_rep)]
theorem hE_pad : ESound Tryd.prog (envOf L_pad) := env_cons ok_rep env_nil
theorem pad_run (s : ByteArray) (n : Int) : F_ Tryd.prog L_pad Tryd.f10 [] [] 99 [vs s, vi n] ⟨[], 0⟩ = some (.ret (vs (catB s (spc (max (IntKind.i64.wrap (n - Int.ofNat s.size)) 0)))) ⟨[], 99⟩ (conj [decide (0 ≤ max (IntKind.i64.wrap (n - Int.ofNat s.size)) 0), decide (max (IntKind.i64.wrap (n - Int.ofNat s.size)) 0 ≤ 128), (lenB s + lenB (spc (max (IntKind.i64.wrap (n - Int.ofNat s.size)) 0))).ble 9223372036854775807])) := by kernel_rfl
theorem cat_spc (s : ByteArray) (n : Int) : catB s (spc (max (n - Int.ofNat s.size) 0)) = padB s n := by
  apply bytes_ext
  show s.data.toList ++ List.replicate _ 32 = s.data.toList ++ List.replicate _ 32
  rw [show (max (n - Int.ofNat s.size) 0).toNat = (n - s.size).toNat by show (max (n - (s.size : Int)) 0).toNat = _; omega]
theorem spc_len (c : Int) : lenB (spc c) = c.toNat := by unfold lenB spc; simp
theorem ok_pad : SpecOk Tryd.prog 10 e_pad := fun m args v mo bs h hb => by
  unfold e_pad at h
  split at h <;> try cases h
  rename_i s n
  simp only [List.all_cons, List.all_nil, id, Bool.and_true, Bool.and_eq_true, decide_eq_true_eq] at hb
  obtain ⟨h0, h1, h2⟩ := hb
  have h := pad_run s n
  have ew : IntKind.i64.wrap (n - Int.ofNat s.size) = n - Int.ofNat s.size := wrapI (by show (-9223372036854775808 : Int) ≤ n - (s.size : Int); omega) (by show n - (s.size : Int) ≤ _; omega)
  rw [ew, cat_spc, spc_len, lenBs] at h
  refine lift_ground (m1' := ⟨[], 99⟩) (fsound (c := bodyOf Tryd.f10) (fun xs w => Tryd.call10 xs w) Tryd.func10 rfl (F_ret (c := bodyOf Tryd.f10) hE_pad mixedY rfl rfl (h.trans (congrArg (fun b => some (Fin_.ret _ _ b)) (conj_ty ?_))))) rfl rfl
  have e2 : (0 : Int) ≤ max (n - Int.ofNat s.size) 0 := by omega
  have e3 : max (n - Int.ofNat s.size) 0 ≤ 128 := by show max (n - (s.size : Int)) 0 ≤ 128; omega
  simp [e2, Nat.ble_eq]
  omega
-- the document's
def rpC : List Cut := [(0,[0,1],[],0),(1,[0,1],[],0),(2,[0,1],[],0),(3,[0,1],[],0)]
abbrev rpT (s : ByteArray) (n : Int) : List AV := [vs s, vi n] ++ List.replicate 10 .unk
theorem rpad_in (s : ByteArray) (n : Int) : F_ Tryd.prog [] Tryd.f11 rpC [] 99 [vs s, vi n] ⟨[], 0⟩ = some (.head (hd Tryd.f11 0) (rpT s n) ⟨[], 0⟩ true) := by kernel_rfl
theorem rpad_r (s : ByteArray) (n : Int) : H_ Tryd.prog [] Tryd.f11 rpC [] 99 (hd Tryd.f11 0) (rpT s n) ⟨[], 0⟩ =
    bif decide (Int.ofNat s.size < n) then some (.head (hd Tryd.f11 0) (rpT (catB s spx) n) ⟨[], 0⟩ (conj [(lenB s + 1).ble 9223372036854775807]))
    else some (.ret (vs s) ⟨[], 99⟩ true) := by kernel_rfl
theorem size_cat (a b : ByteArray) : (catB a b).size = a.size + b.size := by
  rw [← lenBs, ← lenBs, ← lenBs]; unfold lenB catB; simp
theorem pad_done {s : ByteArray} {n : Int} (h : n ≤ s.size) : padB s n = s := by
  apply bytes_ext
  show s.data.toList ++ List.replicate _ 32 = _
  rw [show (n - (s.size : Int)).toNat = 0 by omega]; simp
theorem pad_more {s : ByteArray} {n : Int} (h : (s.size : Int) < n) : padB (catB s spx) n = padB s n := by
  apply bytes_ext
  show (s.data.toList ++ [32]) ++ List.replicate _ 32 = s.data.toList ++ List.replicate _ 32
  rw [size_cat, show (n - (s.size : Int)).toNat = (n - ((s.size + spx.size : Nat) : Int)).toNat + 1 by show _ = (n - ((s.size + 1 : Nat) : Int)).toNat + 1; omega, List.replicate_succ]
  simp
theorem rpad_loop (n : Int) : ∀ (k : Nat) (s : ByteArray), (n - s.size).toNat = k → s.size + k ≤ 2000000000 → Gives_ Tryd.prog Tryd.f11 0 ⟨hd Tryd.f11 0, rpT s n, ⟨[], 0⟩⟩ (vs (padB s n)) ⟨[], 99⟩
  | 0, s, hk, hl => by
    have h := rpad_r s n
    rw [decide_eq_false (show ¬ Int.ofNat s.size < n by show ¬ (s.size : Int) < n; omega), cond_false] at h
    rw [pad_done (by omega)]
    exact H_ret env_nil mixedY rfl h
  | k + 1, s, hk, hl => by
    have h := rpad_r s n
    rw [decide_eq_true (show Int.ofNat s.size < n by show (s.size : Int) < n; omega), cond_true, conj_ty (by rw [lenBs]; simp; omega)] at h
    rw [← pad_more (by omega)]
    have e : (catB s spx).size = s.size + 1 := size_cat s spx
    exact Goes.gives (H_head env_nil mixedY rfl h) (rpad_loop n k _ (by rw [e]; omega) (by rw [e]; omega))
def e_rpad : Spec := fun _ args => match args with
  | [.val (.string s), .val (.int .i64 n)] => some (vs (padB s n), none, [decide (s.size ≤ 1000000000), decide (n ≤ 1000000000)])
  | _ => none
theorem ok_rpad : SpecOk Tryd.prog 11 e_rpad := fun m args v mo bs h hb => by
  unfold e_rpad at h
  split at h <;> try cases h
  rename_i s n
  simp only [List.all_cons, List.all_nil, id, Bool.and_true, Bool.and_eq_true, decide_eq_true_eq] at hb
  obtain ⟨h0, h1⟩ := hb
  exact lift_ground (m1' := ⟨[], 99⟩) (fsound (c := bodyOf Tryd.f11) (fun xs w => Tryd.call11 xs w) Tryd.func11 rfl
    (Goes.gives (F_head (c := bodyOf Tryd.f11) env_nil mixedY rfl rfl (rpad_in s n)) (rpad_loop n _ s rfl (by omega)))) rfl rfl
-- blanks cut off
def trimS (s : ByteArray) : ByteArray := ⟨(Lib.trimRightB s.data.toList 32).toArray⟩
def e_trim : Spec := fun _ args => match args with
  | [.val (.string s), .val (.string t)] => some (vs (trimS s), none, [decide (t = spx), decide (s.size ≤ 9223372036854775807)])
  | _ => none
theorem ok_trim : SpecOk Tryd.prog 42 e_trim := fun m args v mo bs h hb => by
  unfold e_trim at h
  split at h <;> try cases h
  rename_i s t
  simp only [List.all_cons, List.all_nil, id, Bool.and_true, Bool.and_eq_true, decide_eq_true_eq] at hb
  obtain ⟨rfl, h1⟩ := hb
  refine calls_fn (fun xs w => Tryd.call42 xs w) fun ρ xs w hx => ?_
  simp only [AV.rels, AV.rel] at hx
  obtain ⟨_, _, rfl, rfl, _, _, rfl, rfl, rfl⟩ := hx
  refine Calls.mono (Any.strings_TrimRight_one Tryd.lays162 s 32 (by decide) w h1) ?_
  rintro e w' ⟨rfl, rfl⟩
  exact ⟨⟨_, rfl, by simp only [AV.rel]; rfl⟩, rfl⟩
def rtC : List Cut := [(0,[0],[],0),(1,[0],[],0),(2,[0],[],0),(3,[0],[],0)]
abbrev rtT (s : ByteArray) : List AV := [vs s] ++ List.replicate 19 .unk
theorem rtrim_in (s : ByteArray) : F_ Tryd.prog [] Tryd.f44 rtC [] 99 [vs s] ⟨[], 0⟩ = some (.head (hd Tryd.f44 0) (rtT s) ⟨[], 0⟩ true) := by kernel_rfl
theorem rtrim_r (s : ByteArray) : H_ Tryd.prog [] Tryd.f44 rtC [] 99 (hd Tryd.f44 0) (rtT s) ⟨[], 0⟩ =
    bif bif decide (0 < Int.ofNat s.size) then byteAt s (IntKind.i64.wrap (Int.ofNat s.size - 1)).toNat == 32 else false then
      some (.head (hd Tryd.f44 0) (rtT (s.extract 0 (IntKind.i64.wrap (Int.ofNat s.size - 1)).toNat)) ⟨[], 0⟩ (conj [!decide (0 < Int.ofNat s.size) || decide (0 ≤ IntKind.i64.wrap (Int.ofNat s.size - 1)), !decide (0 < Int.ofNat s.size) || decide ((IntKind.i64.wrap (Int.ofNat s.size - 1)).toNat < s.size), decide (0 ≤ IntKind.i64.wrap (Int.ofNat s.size - 1)), decide (IntKind.i64.wrap (Int.ofNat s.size - 1) ≤ Int.ofNat s.size)]))
    else some (.ret (vs s) ⟨[], 99⟩ (conj [!decide (0 < Int.ofNat s.size) || decide (0 ≤ IntKind.i64.wrap (Int.ofNat s.size - 1)), !decide (0 < Int.ofNat s.size) || decide ((IntKind.i64.wrap (Int.ofNat s.size - 1)).toNat < s.size)])) := by kernel_rfl
theorem trim_ne {l : List UInt8} {b : UInt8} (h : b ≠ 32) : Lib.trimRightB (l ++ [b]) 32 = l ++ [b] := by
  unfold Lib.trimRightB
  simp [List.dropWhile, h]
theorem trim_sp {l : List UInt8} : Lib.trimRightB (l ++ [32]) 32 = Lib.trimRightB l 32 := by
  unfold Lib.trimRightB
  simp [List.dropWhile]
theorem rtrim_loop : ∀ (k : Nat) (s : ByteArray), s.size = k → s.size ≤ 9223372036854775807 → Gives_ Tryd.prog Tryd.f44 0 ⟨hd Tryd.f44 0, rtT s, ⟨[], 0⟩⟩ (vs (trimS s)) ⟨[], 99⟩
  | 0, s, hk, hl => by
    have h := rtrim_r s
    rw [decide_eq_false (show ¬ 0 < Int.ofNat s.size by rw [hk]; decide)] at h
    simp only [cond_false, Bool.not_false, Bool.true_or] at h
    have e : trimS s = s := by
      apply bytes_ext
      have e0 : s.data.toList = [] := List.eq_nil_of_length_eq_zero (by have := lenBs s; unfold lenB at this; omega)
      show Lib.trimRightB s.data.toList 32 = _
      rw [e0]; rfl
    rw [e]
    exact H_ret env_nil mixedY rfl h
  | k + 1, s, hk, hl => by
    have h := rtrim_r s
    have hlen : s.data.toList.length = k + 1 := by have := lenBs s; unfold lenB at this; omega
    obtain ⟨l, b, hlb⟩ : ∃ l b, s.data.toList = l ++ [b] := ⟨s.data.toList.dropLast, s.data.toList.getLast (by intro e; rw [e] at hlen; cases hlen), (List.dropLast_concat_getLast _).symm⟩
    have hll : l.length = k := by rw [hlb] at hlen; simpa using hlen
    have ew : IntKind.i64.wrap (Int.ofNat s.size - 1) = (k : Int) := by rw [hk, wrapI (by show (-9223372036854775808 : Int) ≤ ((k + 1 : Nat) : Int) - 1; omega) (by show ((k + 1 : Nat) : Int) - 1 ≤ _; omega)]; show ((k + 1 : Nat) : Int) - 1 = _; omega
    have eb : byteAt s k = (b.toNat : Int) := by unfold byteAt; rw [hlb]; simp [← hll]
    rw [ew, decide_eq_true (show 0 < Int.ofNat s.size by rw [hk]; show (0 : Int) < ((k + 1 : Nat) : Int); omega), Int.toNat_natCast, eb, conj_ty (by simp [hk]; omega), conj_ty (by simp [hk])] at h
    by_cases hb : b = 32
    · subst hb
      rw [show ((((32 : UInt8).toNat : Nat) : Int) == 32) = true from rfl] at h
      have e : trimS (s.extract 0 k) = trimS s := by
        apply bytes_ext
        show Lib.trimRightB _ 32 = Lib.trimRightB _ 32
        rw [ext_list, hlb, trim_sp, ← hll, List.take_left']
        rfl
      have e2 : (s.extract 0 k).size = k := by
        rw [← lenBs]; unfold lenB; rw [ext_list, List.length_take]; omega
      rw [← e]
      exact Goes.gives (H_head env_nil mixedY rfl h) (rtrim_loop k _ e2 (by omega))
    · have hne : ((b.toNat : Int) == 32) = false := by
        rw [beq_eq_false_iff_ne]
        intro e
        exact hb (UInt8.toNat_inj.1 (by have : b.toNat = 32 := by omega
                                        rw [this]; rfl))
      rw [hne] at h
      have e : trimS s = s := by
        apply bytes_ext
        show Lib.trimRightB s.data.toList 32 = _
        rw [hlb, trim_ne hb]
      rw [e]
      exact H_ret env_nil mixedY rfl h
def e_rtrim : Spec := fun _ args => match args with
  | [.val (.string s)] => some (vs (trimS s), none, [decide (s.size ≤ 9223372036854775807)])
  | _ => none
theorem ok_rtrim : SpecOk Tryd.prog 44 e_rtrim := fun m args v mo bs h hb => by
  unfold e_rtrim at h
  split at h <;> try cases h
  rename_i s
  simp only [List.all_cons, List.all_nil, id, Bool.and_true, Bool.and_eq_true, decide_eq_true_eq] at hb
  exact lift_ground (m1' := ⟨[], 99⟩) (fsound (c := bodyOf Tryd.f44) (fun xs w => Tryd.call44 xs w) Tryd.func44 rfl
    (Goes.gives (F_head (c := bodyOf Tryd.f44) env_nil mixedY rfl rfl (rtrim_in s)) (rtrim_loop _ s rfl hb))) rfl rfl
end Go.Proofs.YtbjealobiblabaaDoor
