/-
  What the program's functions hand back.
-/
import Derived.Deep.Quiet
import Derived.Deep.QuietTactic
import Derived.StillTail
import Derived.WalkKit
import Derived.Lib.Hide
import Derived.Test.YtbjealobiblabaaGreatDoorProg
import Derived.WalkSpells
import Derived.WalkLawsBesides
import Derived.Deep.Cut
import Derived.LoopN
import Derived.BigQuiet
import Derived.Test.YtbjealobiblabaaGreatDoorRows
import Derived.ProofKit
import Derived.Deep.Slices
import Derived.Deep.Fields
import Derived.ChangeSame
import Derived.OpenShut
import Derived.IntWalk
import Derived.Shelf.SlSortCmp.NoneTotal
import Derived.Shelf.Lay
import Derived.Shelf.Small.Bits
import Derived.Lib.ItoaNum
import Derived.Lib.BitFns
import Derived.Test.YtbjealobiblabaaGreatDoorMc
namespace Go.Proofs.YtbjealobiblabaaGreatDoor
open Go Go.RowKit
section
variable {P : Program}
/-- A name for what is handed back. -/
theorem name_slice {ρ ρ1 : Rho} {m : MS} {w w' : World} {c : Cont} {n wd s cp : Nat} {i : LI} {A : Option Addr} (hm : MRel ρ m w) (hg : c.ground = true) (hpl : c.plain = true) (ho : w'.os = w.os) (ht : w'.tape = w.tape) (hout : OutLe w w') (hsz : w.heap.size ≤ w'.heap.size) (hk : ∀ g, g < w.heap.size → w'.heap[g]? = w.heap[g]?)
    (hfr : w.heap.size ≤ i.b ∨ (⟨false, false, c⟩ : ABlk).void) (hok : (⟨false, false, c⟩ : ABlk).ok ρ1 0 i w') (hnc : n ≤ cp) (hA : 0 < n → A = some ⟨i.b, i.o + 0 * wd, none⟩) (hcap : 0 * wd + cp * (s * wd) ≤ i.cap) :
    ∃ ρ', AV.rel ρ' (m.nx + 1) (.sl false m.nx wd 0 s n none) (.slice A n cp) ∧ MRel ρ' ⟨(m.nx, some ⟨false, false, c⟩) :: m.bl, m.nx + 1⟩ w' ∧ Moves m.nx ρ ρ' m ⟨(m.nx, some ⟨false, false, c⟩) :: m.bl, m.nx + 1⟩ w w' := by
  have hext : ∀ l, l < m.nx → (ρ.new m.nx i) l = ρ l := fun l hl => by unfold Rho.new; rw [if_neg (by omega)]
  have hself : (ρ.new m.nx i) m.nx = i := by simp [Rho.new]
  have key : ∀ l b', look ((m.nx, some (⟨false, false, c⟩ : ABlk)) :: m.bl) l = some b' → (l = m.nx ∧ b' = ⟨false, false, c⟩) ∨ (l < m.nx ∧ look m.bl l = some b') := fun l b' hl => by
    rw [look_cons] at hl
    split at hl
    · rename_i e; cases hl; exact .inl ⟨e.symm, rfl⟩
    · exact .inr ⟨(hm.blk l b' hl).1, hl⟩
  refine ⟨ρ.new m.nx i, ?_, ⟨fun l b' hl => ?_, fun l b1 l' b2 h1 h2 hw1 hne hnv => ?_, fun l b1 l' b2 h1 h2 hw1 hn2 => ?_⟩, ⟨hext, Nat.le_succ _, ho, ht, hout, hsz, fun g hg _ => hk g hg, fun g ⟨l, b', h1, h2, h3⟩ => ?_⟩⟩
  · simp only [AV.rel]
    rw [hself]
    exact ⟨Nat.lt_succ_self _, A, cp, rfl, hnc, hA, (fun h => by cases h), hcap⟩
  · rcases key l b' hl with ⟨rfl, rfl⟩ | ⟨hlt, hl⟩
    · refine ⟨Nat.lt_succ_self _, ?_⟩
      rw [hself]
      exact ⟨hok.lt, Cont.rel_ground hg hok.rel, hok.free, hok.room, fun q hq => absurd hq (Cont.plain_ne hpl q)⟩
    · refine ⟨Nat.lt_succ_of_lt hlt, ?_⟩
      rw [hext l hlt]
      have h2 := (hm.blk l b' hl).2
      rcases h2.lt with hlt' | hv
      · exact h2.ext hext (Nat.le_succ _) hsz (hk _ hlt') fun hn' g hg => hk g (h2.tlt hn' g hg)
      · exact ABlk.ok.any hv _
  · rcases key l b1 h1 with ⟨rfl, rfl⟩ | ⟨hlt, hl⟩
    · cases hw1
    · rw [hext l hlt]
      rcases key l' b2 h2 with ⟨rfl, rfl⟩ | ⟨hlt', hl'⟩
      · rw [hself]
        have := (hm.blk l b1 hl).2.lt.resolve_right (wr_not_void hw1)
        have h3 := hfr.resolve_right hnv
        omega
      · rw [hext l' hlt']
        exact hm.apart l b1 l' b2 hl hl' hw1 hne hnv
  · rcases key l b1 h1 with ⟨rfl, rfl⟩ | ⟨hlt, hl⟩
    · cases hw1
    · rw [hext l hlt]
      rcases key l' b2 h2 with ⟨rfl, rfl⟩ | ⟨hlt', hl'⟩
      · have e1 : c.nested = true := hn2
        rw [Cont.nested_plain hpl] at e1; cases e1
      · rw [hext l' hlt']
        exact hm.deep l b1 l' b2 hl hl' hw1 hn2
  · rcases key l b' h1 with ⟨rfl, rfl⟩ | ⟨hlt, hl⟩
    · cases h2
    · rw [hext l hlt] at h3
      exact .inl ⟨l, b', hl, h2, h3⟩
theorem name_nil {ρ : Rho} {m : MS} {w w' : World} {c : Cont} {wd s : Nat} (hm : MRel ρ m w) (hg : c.ground = true) (hpl : c.plain = true) (hv : ∀ r c' a, c.at r c' ≠ some (a, true)) (ho : w'.os = w.os) (ht : w'.tape = w.tape) (hout : OutLe w w') (hsz : w.heap.size ≤ w'.heap.size) (hk : ∀ g, g < w.heap.size → w'.heap[g]? = w.heap[g]?) :
    ∃ ρ', AV.rel ρ' (m.nx + 1) (.sl false m.nx wd 0 s 0 none) (.slice none 0 0) ∧ MRel ρ' ⟨(m.nx, some ⟨false, false, c⟩) :: m.bl, m.nx + 1⟩ w' ∧ Moves m.nx ρ ρ' m ⟨(m.nx, some ⟨false, false, c⟩) :: m.bl, m.nx + 1⟩ w w' :=
  have hvoid : (⟨false, false, c⟩ : ABlk).void := ⟨rfl, rfl, Cont.plain_void hpl, hv⟩
  name_slice (ρ1 := ρ) (i := ⟨0, 0, 0, 0⟩) hm hg hpl ho ht hout hsz hk (.inr hvoid) (ABlk.ok.any hvoid _) (Nat.le_refl _) (fun h => by omega) (by simp)
theorem name_new {ρ ρ1 ρ2 : Rho} {m m1 : MS} {w w' : World} {c : Cont} {k top wd s n cp : Nat} {A : Option Addr} (hm : MRel ρ m w) (hnw : ∀ g, ¬ Wr ρ1 m1 g) (hg : c.ground = true) (hpl : c.plain = true) (hm2 : MRel ρ2 ⟨[(k, some ⟨true, true, c⟩)], top⟩ w') (mv : Moves m1.nx ρ1 ρ2 m1 ⟨[(k, some ⟨true, true, c⟩)], top⟩ w w') (hnc : n ≤ cp) (hA : 0 < n → A = some ⟨(ρ2 k).b, (ρ2 k).o + 0 * wd, none⟩) (hcap : 0 * wd + cp * (s * wd) ≤ (ρ2 k).cap) :
    ∃ ρ', AV.rel ρ' (m.nx + 1) (.sl false m.nx wd 0 s n none) (.slice A n cp) ∧ MRel ρ' ⟨(m.nx, some ⟨false, false, c⟩) :: m.bl, m.nx + 1⟩ w' ∧ Moves m.nx ρ ρ' m ⟨(m.nx, some ⟨false, false, c⟩) :: m.bl, m.nx + 1⟩ w w' := by
  obtain ⟨_, hok⟩ := hm2.blk k ⟨true, true, c⟩ (by simp [look])
  have hfr : w.heap.size ≤ (ρ2 k).b := (mv.fresh (ρ2 k).b ⟨k, ⟨true, true, c⟩, by simp [look], rfl, rfl⟩).resolve_left (hnw _)
  exact name_slice (ρ1 := ρ) (i := ρ2 k) hm hg hpl mv.os mv.tape mv.output mv.size (fun g hg => mv.keep g hg (hnw g)) (.inl hfr) ⟨.inl (hok.lt.resolve_right (wr_not_void rfl)), Cont.rel_ground hg hok.rel, (fun h => by cases h), (fun h => by cases h), fun q hq => absurd hq (Cont.plain_ne hpl q)⟩ hnc hA hcap
/-- What is handed back is a slice, for reading, nil where it is empty. -/
theorem lift_slice {f : FuncId} {m m1 : MS} {args args1 rest : List AV} {n wd s : Nat} {c : Cont} (hro : allRo m1.bl = true) (hg : c.ground = true) (hpl : c.plain = true) (hrest : AV.grounds rest = true)
    (hsim : ∀ (ρ : Rho) (w : World) (xs : List Value), MRel ρ m w → AV.rels ρ m.nx args xs → ∃ ρ1, MRel ρ1 m1 w ∧ AV.rels ρ1 m1.nx args1 xs)
    (h : (n = 0 ∧ (∀ r c' a, c.at r c' ≠ some (a, true)) ∧ ∃ m', FSound P f m1 args1 (.tup (.val (.slice none 0 0) :: rest)) m') ∨
      ∃ k top, FSound P f m1 args1 (.tup (.sl true k wd 0 s n none :: rest)) ⟨[(k, some ⟨true, true, c⟩)], top⟩) :
    FSound P f m args (.tup (.sl false m.nx wd 0 s n none :: rest)) ⟨(m.nx, some ⟨false, false, c⟩) :: m.bl, m.nx + 1⟩ := by
  intro ρ w xs hm hx
  obtain ⟨ρ1, hm1, hx1⟩ := hsim ρ w xs hm hx
  have hnw : ∀ g, ¬ Wr ρ1 m1 g := fun g ⟨l, b, h1, h2, _⟩ => by rw [allRo_look hro h1] at h2; cases h2
  rcases h with ⟨rfl, hv, m', hf⟩ | ⟨k, top, hf⟩
  · refine Went.mono (hf ρ1 w xs hm1 hx1) fun x w' ⟨ρ2, hr, hm2, mv⟩ => ?_
    simp only [AV.rel, AV.rels] at hr
    obtain ⟨_, rfl, y, ys, rfl, rfl, hys⟩ := hr
    obtain ⟨ρ', h1, h2, h3⟩ := name_nil (wd := wd) (s := s) hm hg hpl hv mv.os mv.tape mv.output mv.size (fun g hg => mv.keep g hg (hnw g))
    exact ⟨ρ', by simp only [AV.rel, AV.rels] at h1 ⊢; exact ⟨_, rfl, _, _, rfl, h1, AV.grounds_rels _ _ hrest hys⟩, h2, h3⟩
  · refine Went.mono (hf ρ1 w xs hm1 hx1) fun x w' ⟨ρ2, hr, hm2, mv⟩ => ?_
    simp only [AV.rel, AV.rels] at hr
    obtain ⟨_, rfl, y, ys, rfl, ⟨hkl, A, cp, rfl, hnc, hA, hnn, hcap⟩, hys⟩ := hr
    obtain ⟨ρ', h1, h2, h3⟩ := name_new hm hnw hg hpl hm2 mv hnc hA hcap
    exact ⟨ρ', by simp only [AV.rel, AV.rels] at h1 ⊢; exact ⟨_, rfl, _, _, rfl, h1, AV.grounds_rels _ _ hrest hys⟩, h2, h3⟩
theorem lift_slice1 {f : FuncId} {m m1 : MS} {args args1 : List AV} {n wd s : Nat} {c : Cont} (hro : allRo m1.bl = true) (hg : c.ground = true) (hpl : c.plain = true)
    (hsim : ∀ (ρ : Rho) (w : World) (xs : List Value), MRel ρ m w → AV.rels ρ m.nx args xs → ∃ ρ1, MRel ρ1 m1 w ∧ AV.rels ρ1 m1.nx args1 xs)
    (h : (n = 0 ∧ (∀ r c' a, c.at r c' ≠ some (a, true)) ∧ ∃ m', FSound P f m1 args1 (.val (.slice none 0 0)) m') ∨
      ∃ k top, FSound P f m1 args1 (.sl true k wd 0 s n none) ⟨[(k, some ⟨true, true, c⟩)], top⟩) :
    FSound P f m args (.sl false m.nx wd 0 s n none) ⟨(m.nx, some ⟨false, false, c⟩) :: m.bl, m.nx + 1⟩ := by
  intro ρ w xs hm hx
  obtain ⟨ρ1, hm1, hx1⟩ := hsim ρ w xs hm hx
  have hnw : ∀ g, ¬ Wr ρ1 m1 g := fun g ⟨l, b, h1, h2, _⟩ => by rw [allRo_look hro h1] at h2; cases h2
  rcases h with ⟨rfl, hv, m', hf⟩ | ⟨k, top, hf⟩
  · refine Went.mono (hf ρ1 w xs hm1 hx1) fun x w' ⟨ρ2, hr, hm2, mv⟩ => ?_
    simp only [AV.rel] at hr
    subst hr
    exact name_nil (wd := wd) (s := s) hm hg hpl hv mv.os mv.tape mv.output mv.size (fun g hg => mv.keep g hg (hnw g)) |>.imp fun ρ' h => h
  · refine Went.mono (hf ρ1 w xs hm1 hx1) fun x w' ⟨ρ2, hr, hm2, mv⟩ => ?_
    simp only [AV.rel] at hr
    obtain ⟨hkl, A, cp, rfl, hnc, hA, hnn, hcap⟩ := hr
    exact name_new hm hnw hg hpl hm2 mv hnc hA hcap
end
end Go.Proofs.YtbjealobiblabaaGreatDoor

namespace Go.Proofs.YtbjealobiblabaaGreatDoor
open Go Go.RowKit
section
variable {P : Program}
theorem allRo_noWr {ρ : Rho} {m : MS} (h : allRo m.bl = true) (g : Nat) : ¬ Wr ρ m g := fun ⟨l, b, h1, h2, _⟩ => by rw [allRo_look h h1] at h2; cases h2
/-- A name for what is handed back. -/
theorem name_gen {ρ ρ1 : Rho} {nx1 : Nat} {m : MS} {w w' : World} {c : Cont} {n wd s cp : Nat} {i : LI} {A : Option Addr} (hm : MRel ρ m w) (hg : c.ground = true) (hd : c.nested = true → ∀ g, Wr ρ m g → i.tg.testBit g = false) (ho : w'.os = w.os) (ht : w'.tape = w.tape) (hout : OutLe w w') (hsz : w.heap.size ≤ w'.heap.size) (hk : ∀ g, g < w.heap.size → w'.heap[g]? = w.heap[g]?)
    (hfr : w.heap.size ≤ i.b ∨ (⟨false, false, c⟩ : ABlk).void) (hok : (⟨false, false, c⟩ : ABlk).ok ρ1 nx1 i w') (hnc : n ≤ cp) (hA : 0 < n → A = some ⟨i.b, i.o + 0 * wd, none⟩) (hcap : 0 * wd + cp * (s * wd) ≤ i.cap) :
    ∃ ρ', AV.rel ρ' (m.nx + 1) (.sl false m.nx wd 0 s n none) (.slice A n cp) ∧ MRel ρ' ⟨(m.nx, some ⟨false, false, c⟩) :: m.bl, m.nx + 1⟩ w' ∧ Moves m.nx ρ ρ' m ⟨(m.nx, some ⟨false, false, c⟩) :: m.bl, m.nx + 1⟩ w w' := by
  have hext : ∀ l, l < m.nx → (ρ.new m.nx i) l = ρ l := fun l hl => by unfold Rho.new; rw [if_neg (by omega)]
  have hself : (ρ.new m.nx i) m.nx = i := by simp [Rho.new]
  have key : ∀ l b', look ((m.nx, some (⟨false, false, c⟩ : ABlk)) :: m.bl) l = some b' → (l = m.nx ∧ b' = ⟨false, false, c⟩) ∨ (l < m.nx ∧ look m.bl l = some b') := fun l b' hl => by
    rw [look_cons] at hl
    split at hl
    · rename_i e; cases hl; exact .inl ⟨e.symm, rfl⟩
    · exact .inr ⟨(hm.blk l b' hl).1, hl⟩
  refine ⟨ρ.new m.nx i, ?_, ⟨fun l b' hl => ?_, fun l b1 l' b2 h1 h2 hw1 hne hnv => ?_, fun l b1 l' b2 h1 h2 hw1 hn2 => ?_⟩, ⟨hext, Nat.le_succ _, ho, ht, hout, hsz, fun g hg _ => hk g hg, fun g ⟨l, b', h1, h2, h3⟩ => ?_⟩⟩
  · simp only [AV.rel]
    rw [hself]
    exact ⟨Nat.lt_succ_self _, A, cp, rfl, hnc, hA, (fun h => by cases h), hcap⟩
  · rcases key l b' hl with ⟨rfl, rfl⟩ | ⟨hlt, hl⟩
    · refine ⟨Nat.lt_succ_self _, ?_⟩
      rw [hself]
      exact ⟨hok.lt, Cont.rel_ground hg hok.rel, hok.free, hok.room, fun q hq => (hok.obj q hq).ok_ground (by have hq : c = .obj q := hq; rw [← hq]; exact hg)⟩
    · refine ⟨Nat.lt_succ_of_lt hlt, ?_⟩
      rw [hext l hlt]
      have h2 := (hm.blk l b' hl).2
      rcases h2.lt with hlt' | hv
      · exact h2.ext hext (Nat.le_succ _) hsz (hk _ hlt') fun hn' g hg => hk g (h2.tlt hn' g hg)
      · exact ABlk.ok.any hv _
  · rcases key l b1 h1 with ⟨rfl, rfl⟩ | ⟨hlt, hl⟩
    · cases hw1
    · rw [hext l hlt]
      rcases key l' b2 h2 with ⟨rfl, rfl⟩ | ⟨hlt', hl'⟩
      · rw [hself]
        have := (hm.blk l b1 hl).2.lt.resolve_right (wr_not_void hw1)
        have h3 := hfr.resolve_right hnv
        omega
      · rw [hext l' hlt']
        exact hm.apart l b1 l' b2 hl hl' hw1 hne hnv
  · rcases key l b1 h1 with ⟨rfl, rfl⟩ | ⟨hlt, hl⟩
    · cases hw1
    · rw [hext l hlt]
      rcases key l' b2 h2 with ⟨rfl, rfl⟩ | ⟨hlt', hl'⟩
      · rw [hself]
        exact hd hn2 _ ⟨l, b1, hl, hw1, rfl⟩
      · rw [hext l' hlt']
        exact hm.deep l b1 l' b2 hl hl' hw1 hn2
  · rcases key l b' h1 with ⟨rfl, rfl⟩ | ⟨hlt, hl⟩
    · cases h2
    · rw [hext l hlt] at h3
      exact .inl ⟨l, b', hl, h2, h3⟩
/-- What stands for what, for reading: the same, or known cells as a column. -/
def Cont.says (c0 c : Cont) : Prop := (c0 = c ∧ c.plain = true) ∨ (c.plain = true ∧ ∀ (ρ : Rho) (nx : Nat) (cell : Nat → Option Value), c0.rel ρ nx cell → c.rel ρ nx cell)
theorem says_ints {k : IntKind} {zs : List Int} : (Cont.cells (zs.map fun z => .val (.int k z))).says (.col (.ints k zs)) := by
  refine .inr ⟨rfl, fun ρ nx cell h r c a ha => ?_⟩
  cases c <;> simp only [Cont.at] at ha <;> try cases ha
  simp only [Col.at, Option.some.injEq, Prod.mk.injEq, decide_eq_true_eq] at ha
  obtain ⟨rfl, hlt⟩ := ha
  obtain ⟨_, x, h1, h2⟩ := h r 0 (.val (.int k (zs.getD r 0))) (by simp [Cont.at, hlt])
  exact ⟨by simp [Cont.width], x, h1, h2⟩
theorem says_strs {zs : List ByteArray} : (Cont.cells (zs.map fun z => .val (.string z))).says (.col (.strs zs)) := by
  refine .inr ⟨rfl, fun ρ nx cell h r c a ha => ?_⟩
  cases c <;> simp only [Cont.at] at ha <;> try cases ha
  simp only [Col.at, Option.some.injEq, Prod.mk.injEq, decide_eq_true_eq] at ha
  obtain ⟨rfl, hlt⟩ := ha
  obtain ⟨_, x, h1, h2⟩ := h r 0 (.val (.string (zs.getD r ⟨#[]⟩))) (by simp [Cont.at, hlt])
  exact ⟨by simp [Cont.width], x, h1, h2⟩
theorem says_self {c : Cont} (h : c.plain = true) : c.says c := .inl ⟨rfl, h⟩
/-- What is handed back is a slice: no slices in its cells. -/
theorem lift_list {f : FuncId} {m m1 : MS} {args args1 : List AV} {n wd s : Nat} {c : Cont} (hro : allRo m1.bl = true) (hg : c.ground = true) (hpl : c.plain = true)
    (hsim : ∀ (ρ : Rho) (w : World) (xs : List Value), MRel ρ m w → AV.rels ρ m.nx args xs → ∃ ρ1, MRel ρ1 m1 w ∧ AV.rels ρ1 m1.nx args1 xs)
    (h : (n = 0 ∧ (∀ r c' a, c.at r c' ≠ some (a, true)) ∧ ∃ m', FSound P f m1 args1 (.val (.slice none 0 0)) m') ∨
      ∃ nn k m' op c0 cap, look m'.bl k = some ⟨true, op, c0⟩ ∧ c0.says c ∧ FSound P f m1 args1 (.sl nn k wd 0 s n cap) m') :
    FSound P f m args (.sl false m.nx wd 0 s n none) ⟨(m.nx, some ⟨false, false, c⟩) :: m.bl, m.nx + 1⟩ := by
  intro ρ w xs hm hx
  obtain ⟨ρ1, hm1, hx1⟩ := hsim ρ w xs hm hx
  have hnw := allRo_noWr (ρ := ρ1) hro
  have hd : ∀ i : LI, c.nested = true → ∀ g, Wr ρ m g → i.tg.testBit g = false := fun i hn => by rw [Cont.nested_plain hpl] at hn; cases hn
  rcases h with ⟨rfl, hv, m', hf⟩ | ⟨nn, k, m', op, c0, cap, hl, hsay, hf⟩
  · refine Went.mono (hf ρ1 w xs hm1 hx1) fun x w' ⟨ρ2, hr, hm2, mv⟩ => ?_
    simp only [AV.rel] at hr
    subst hr
    have hvoid : (⟨false, false, c⟩ : ABlk).void := ⟨rfl, rfl, Cont.plain_void hpl, hv⟩
    exact name_gen (ρ1 := ρ) (nx1 := 0) (i := ⟨0, 0, 0, 0⟩) hm hg (hd _) mv.os mv.tape mv.output mv.size (fun g hg => mv.keep g hg (hnw g)) (.inr hvoid) (ABlk.ok.any hvoid _) (Nat.le_refl _) (fun h => by omega) (by simp)
  · refine Went.mono (hf ρ1 w xs hm1 hx1) fun x w' ⟨ρ2, hr, hm2, mv⟩ => ?_
    simp only [AV.rel] at hr
    obtain ⟨_, A, cp, rfl, hnc, hA, _, _⟩ := hr
    obtain ⟨_, hok⟩ := hm2.blk k _ hl
    have hfr : w.heap.size ≤ (ρ2 k).b := (mv.fresh (ρ2 k).b ⟨k, _, hl, rfl, rfl⟩).resolve_left (hnw _)
    refine name_gen (ρ1 := ρ2) (nx1 := m'.nx) (i := ⟨(ρ2 k).b, (ρ2 k).o, cp * (s * wd), 0⟩) hm hg (hd _) mv.os mv.tape mv.output mv.size (fun g hg => mv.keep g hg (hnw g)) (.inl hfr) ⟨.inl (hok.lt.resolve_right (wr_not_void rfl)), ?_, (fun h => by cases h), (fun h => by cases h), fun q hq => absurd hq (Cont.plain_ne hpl q)⟩ hnc hA (by simp)
    rcases hsay with ⟨rfl, _⟩ | ⟨_, hs⟩
    · exact hok.rel
    · exact hs _ _ _ hok.rel
/-- The same, a new one that may be written: it is never empty. -/
theorem lift_listW {f : FuncId} {m m1 : MS} {args args1 : List AV} {n wd s : Nat} {c : Cont} (hro : allRo m1.bl = true) (hg : c.ground = true) (hpl : c.plain = true) (h0 : 0 < n)
    (hsim : ∀ (ρ : Rho) (w : World) (xs : List Value), MRel ρ m w → AV.rels ρ m.nx args xs → ∃ ρ1, MRel ρ1 m1 w ∧ AV.rels ρ1 m1.nx args1 xs)
    (h : ∃ nn k m' op c0 cap, look m'.bl k = some ⟨true, op, c0⟩ ∧ c0.says c ∧ FSound P f m1 args1 (.sl nn k wd 0 s n cap) m') :
    FSound P f m args (.sl false m.nx wd 0 s n none) ⟨(m.nx, some ⟨true, false, c⟩) :: m.bl, m.nx + 1⟩ := by
  intro ρ w xs hm hx
  obtain ⟨ρ1, hm1, hx1⟩ := hsim ρ w xs hm hx
  have hnw := allRo_noWr (ρ := ρ1) hro
  obtain ⟨nn, k, m', op, c0, cap, hl, hsay, hf⟩ := h
  refine Went.mono (hf ρ1 w xs hm1 hx1) fun x w' ⟨ρ2, hr, hm2, mv⟩ => ?_
  simp only [AV.rel] at hr
  obtain ⟨_, A, cp, rfl, hnc, hA, _, _⟩ := hr
  obtain ⟨_, hok⟩ := hm2.blk k _ hl
  have hfr : w.heap.size ≤ (ρ2 k).b := (mv.fresh (ρ2 k).b ⟨k, _, hl, rfl, rfl⟩).resolve_left (hnw _)
  let i : LI := ⟨(ρ2 k).b, (ρ2 k).o, cp * (s * wd), 0⟩
  have hext : ∀ l, l < m.nx → (ρ.new m.nx i) l = ρ l := fun l hl => by unfold Rho.new; rw [if_neg (by omega)]
  have hself : (ρ.new m.nx i) m.nx = i := by simp [Rho.new]
  have hkeep : ∀ g, g < w.heap.size → w'.heap[g]? = w.heap[g]? := fun g hg => mv.keep g hg (hnw g)
  have hrel : c.rel (ρ.new m.nx i) (m.nx + 1) (fun j => w'.cell? ⟨i.b, i.o + j, none⟩) := by
    rcases hsay with ⟨rfl, _⟩ | ⟨_, hs⟩
    · exact Cont.rel_ground hg hok.rel
    · exact Cont.rel_ground hg (hs _ _ _ hok.rel)
  have key : ∀ l b', look ((m.nx, some (⟨true, false, c⟩ : ABlk)) :: m.bl) l = some b' → (l = m.nx ∧ b' = ⟨true, false, c⟩) ∨ (l < m.nx ∧ look m.bl l = some b') := fun l b' hl => by
    rw [look_cons] at hl
    split at hl
    · rename_i e; cases hl; exact .inl ⟨e.symm, rfl⟩
    · exact .inr ⟨(hm.blk l b' hl).1, hl⟩
  refine ⟨ρ.new m.nx i, ?_, ⟨fun l b' hl => ?_, fun l b1 l' b2 h1 h2 hw1 hne hnv => ?_, fun l b1 l' b2 h1 h2 hw1 hn2 => ?_⟩, ⟨hext, Nat.le_succ _, mv.os, mv.tape, mv.output, mv.size, fun g hg _ => hkeep g hg, fun g ⟨l, b', h1, h2, h3⟩ => ?_⟩⟩
  · simp only [AV.rel]
    rw [hself]
    exact ⟨Nat.lt_succ_self _, A, cp, rfl, hnc, hA, (fun h => by cases h), by simp [i]⟩
  · rcases key l b' hl with ⟨rfl, rfl⟩ | ⟨hlt, hl⟩
    · refine ⟨Nat.lt_succ_self _, ?_⟩
      rw [hself]
      exact ⟨.inl (hok.lt.resolve_right (wr_not_void rfl)), hrel, fun _ => hok.free rfl, (fun h => by cases h), fun q hq => absurd hq (Cont.plain_ne hpl q)⟩
    · refine ⟨Nat.lt_succ_of_lt hlt, ?_⟩
      rw [hext l hlt]
      have h2 := (hm.blk l b' hl).2
      rcases h2.lt with hlt' | hv
      · exact h2.ext hext (Nat.le_succ _) mv.size (hkeep _ hlt') fun hn' g hg => hkeep g (h2.tlt hn' g hg)
      · exact ABlk.ok.any hv _
  · rcases key l b1 h1 with ⟨rfl, rfl⟩ | ⟨hlt, hl⟩
    · rcases key l' b2 h2 with ⟨rfl, _⟩ | ⟨hlt', hl'⟩
      · exact absurd rfl hne
      · rw [hself, hext l' hlt']
        have := (hm.blk l' b2 hl').2.lt.resolve_right hnv
        show (ρ l').b ≠ (ρ2 k).b
        omega
    · have := (hm.blk l b1 hl).2.lt.resolve_right (wr_not_void hw1)
      rcases key l' b2 h2 with ⟨rfl, rfl⟩ | ⟨hlt', hl'⟩
      · rw [hself, hext l hlt]
        show (ρ2 k).b ≠ (ρ l).b
        omega
      · rw [hext l hlt, hext l' hlt']
        exact hm.apart l b1 l' b2 hl hl' hw1 hne hnv
  · rcases key l' b2 h2 with ⟨rfl, rfl⟩ | ⟨hlt', hl'⟩
    · have e1 : c.nested = true := hn2
      rw [Cont.nested_plain hpl] at e1; cases e1
    · rw [hext l' hlt']
      have g2 := (hm.blk l' b2 hl').2
      rcases key l b1 h1 with ⟨rfl, rfl⟩ | ⟨hlt, hl⟩
      · rw [hself]
        cases hbt : (ρ l').tg.testBit i.b with
        | false => rfl
        | true => have := g2.tlt hn2 _ hbt; have e : i.b = (ρ2 k).b := rfl; omega
      · rw [hext l hlt]
        exact hm.deep l b1 l' b2 hl hl' hw1 hn2
  · rcases key l b' h1 with ⟨rfl, rfl⟩ | ⟨hlt, hl⟩
    · rw [hself] at h3
      have e : i.b = (ρ2 k).b := rfl
      exact .inr (by omega)
    · rw [hext l hlt] at h3
      exact .inl ⟨l, b', hl, h2, h3⟩
/-- Nothing is written any more. -/
theorem still_mrel {ρ : Rho} {m : MS} {w : World} (h : MRel ρ m w) : MRel ρ ⟨roB m.bl, m.nx⟩ w where
  blk l b hl := by
    obtain ⟨h1, h2, b', h3, h4⟩ := roB_look hl
    obtain ⟨g1, g2⟩ := h.blk l b' h3
    obtain ⟨wr, op, k⟩ := b
    simp only at h1 h2 h4
    subst h1 h2 h4
    exact ⟨g1, g2.lt.imp id fun hv => ⟨rfl, rfl, hv.2.2.1, hv.2.2.2⟩, g2.rel, (fun h => by cases h), (fun h => by cases h), g2.obj⟩
  apart l b l' b' h1 h2 hw := by
    obtain ⟨g1, _⟩ := roB_look h1
    rw [g1] at hw; cases hw
  deep l b l' b' h1 h2 hw := by
    obtain ⟨g1, _⟩ := roB_look h1
    rw [g1] at hw; cases hw
theorem roB_noWr {ρ : Rho} {bl : List (Nat × Option ABlk)} {n : Nat} (g : Nat) : ¬ Wr ρ ⟨roB bl, n⟩ g := fun ⟨l, b, h1, h2, _⟩ => by
  obtain ⟨g1, _⟩ := roB_look h1
  rw [g1] at h2; cases h2
/-- What is handed back is a slice of slices; nothing is written any more where it is handed back. -/
theorem lift_nest {f : FuncId} {m m1 : MS} {args args1 : List AV} {n s : Nat} {cs : List NCol} (hro : allRo m1.bl = true)
    (hsim : ∀ (ρ : Rho) (w : World) (xs : List Value), MRel ρ m w → AV.rels ρ m.nx args xs → ∃ ρ1, MRel ρ1 m1 w ∧ AV.rels ρ1 m1.nx args1 xs)
    (h : (n = 0 ∧ nestB cs = false ∧ ∃ m', FSound P f m1 args1 (.val (.slice none 0 0)) m') ∨
      ∃ nn k m' op fo cap, look m'.bl k = some ⟨true, op, .obj (.nest cs fo)⟩ ∧ FSound P f m1 args1 (.sl nn k cs.length 0 s n cap) m') :
    FSound P f m args (.sl false m.nx cs.length 0 s n none) ⟨(m.nx, some ⟨false, false, .obj (.nest cs [])⟩) :: roB m.bl, m.nx + 1⟩ := by
  intro ρ w xs hm0 hx
  obtain ⟨ρ1, hm1, hx1⟩ := hsim ρ w xs hm0 hx
  have hm := still_mrel hm0
  have hnw := allRo_noWr (ρ := ρ1) hro
  have hd : ∀ i : LI, (Cont.obj (.nest cs [])).nested = true → ∀ g, Wr ρ ⟨roB m.bl, m.nx⟩ g → i.tg.testBit g = false := fun i _ g hg => absurd hg (roB_noWr g)
  have fin : ∀ {w' : World} {v : Value}, (∃ ρ', AV.rel ρ' (m.nx + 1) (.sl false m.nx cs.length 0 s n none) v ∧ MRel ρ' ⟨(m.nx, some ⟨false, false, .obj (.nest cs [])⟩) :: roB m.bl, m.nx + 1⟩ w' ∧ Moves m.nx ρ ρ' ⟨roB m.bl, m.nx⟩ ⟨(m.nx, some ⟨false, false, .obj (.nest cs [])⟩) :: roB m.bl, m.nx + 1⟩ w w') →
      ∃ ρ', AV.rel ρ' (m.nx + 1) (.sl false m.nx cs.length 0 s n none) v ∧ MRel ρ' ⟨(m.nx, some ⟨false, false, .obj (.nest cs [])⟩) :: roB m.bl, m.nx + 1⟩ w' ∧ Moves m.nx ρ ρ' m ⟨(m.nx, some ⟨false, false, .obj (.nest cs [])⟩) :: roB m.bl, m.nx + 1⟩ w w' := fun ⟨ρ', h1, h2, mv⟩ =>
    ⟨ρ', h1, h2, mv.ext, mv.nx, mv.os, mv.tape, mv.output, mv.size, fun g hg _ => mv.keep g hg (roB_noWr g), fun g hg => .inr ((mv.fresh g hg).resolve_left (roB_noWr g))⟩
  rcases h with ⟨rfl, hv, m', hf⟩ | ⟨nn, k, m', op, fo, cap, hl, hf⟩
  · refine Went.mono (hf ρ1 w xs hm1 hx1) fun x w' ⟨ρ2, hr, hm2, mv⟩ => ?_
    simp only [AV.rel] at hr
    subst hr
    have hvoid : (⟨false, false, .obj (.nest cs [])⟩ : ABlk).void := ⟨rfl, rfl, fun q hq => by cases hq; simp [QObj.hollow, hv], fun r c a h => by cases h⟩
    exact fin (name_gen (n := 0) (cp := 0) (A := none) (wd := cs.length) (s := s) (ρ1 := ρ) (nx1 := 0) (i := ⟨0, 0, 0, 0⟩) hm rfl (hd _) mv.os mv.tape mv.output mv.size (fun g hg => mv.keep g hg (hnw g)) (.inr hvoid) (ABlk.ok.any hvoid _) (Nat.le_refl _) (fun h => by omega) (by simp))
  · refine Went.mono (hf ρ1 w xs hm1 hx1) fun x w' ⟨ρ2, hr, hm2, mv⟩ => ?_
    simp only [AV.rel] at hr
    obtain ⟨_, A, cp, rfl, hnc, hA, _, _⟩ := hr
    obtain ⟨_, hok⟩ := hm2.blk k _ hl
    have hfr : w.heap.size ≤ (ρ2 k).b := (mv.fresh (ρ2 k).b ⟨k, _, hl, rfl, rfl⟩).resolve_left (hnw _)
    refine fin (name_gen (ρ1 := ρ2) (nx1 := m'.nx) (i := ⟨(ρ2 k).b, (ρ2 k).o, cp * (s * cs.length), (ρ2 k).tg⟩) hm rfl (hd _) mv.os mv.tape mv.output mv.size (fun g hg => mv.keep g hg (hnw g)) (.inl hfr) ⟨.inl (hok.lt.resolve_right (wr_not_void rfl)), (fun r c a h => by cases h), (fun h => by cases h), (fun h => by cases h), fun q hq => ?_⟩ hnc hA (by simp))
    cases hq
    have := hok.obj _ rfl
    exact this
end
end Go.Proofs.YtbjealobiblabaaGreatDoor

namespace Go.Proofs.YtbjealobiblabaaGreatDoor
open Go Go.RowKit

/-- A world behind 'w' in which all that was there is as it was. -/
structure After (w : World) where
  at_ : World
  below : Below w.heap.size w at_
instance after_some (w : World) : Nonempty (After w) := ⟨⟨w, Below.refl _ _⟩⟩
theorem After.cell {w : World} (x : After w) (a : Addr) (h : a.block < w.heap.size) : x.at_.cell? a = w.cell? a := x.below.cell h
theorem After.frozen {w : World} (x : After w) (a : Addr) (h : a.block < w.heap.size) : x.at_.frozen? a = w.frozen? a := x.below.frozen h
theorem After.block {w : World} (x : After w) (b : Nat) (h : b < w.heap.size) : x.at_.heap[b]? = w.heap[b]? := x.below.block b h
def After.later {w : World} (x : After w) {w' : World} (h : Below x.at_.heap.size x.at_ w') : After w := ⟨w', x.below.trans (h.mono x.below.size)⟩

def Stable (F : World → Prop) : Prop := ∀ w w' : World, Below w.heap.size w w' → F w → F w'
theorem stable_true : Stable (fun _ => True) := fun _ _ _ _ => trivial
theorem stable_blk {F : World → Prop} (h : Stable F) (b : Nat) (o : Obj) : Stable (fun w => F w ∧ w.heap[b]? = some o) := fun w w' hb ⟨hf, ho⟩ => by
  refine ⟨h w w' hb hf, ?_⟩
  rw [hb.block b ?_]
  · exact ho
  · rcases Nat.lt_or_ge b w.heap.size with hlt | hge
    · exact hlt
    · rw [Array.getElem?_eq_none hge] at ho; cases ho

section
variable {P : Program} {ops : Array Oper} {md : Region.Mode} {w0 : World}

def calmUpon (P : Program) (w : World) (v : Value) : Result Next → Prop
  | .ok (.value u) w' => w' = w ∧ u = v
  | .ok .skip w' => w' = w ∧ v = undef
  | .ok (.enter f args) w' => w' = w ∧ Calls P f args w (fun e w'' => e = .returned v ∧ Below w.heap.size w w'')
  | _ => False
def calmAt (P : Program) (o : Oper) (a : Act) (w : World) (v : Value) : Prop := calmUpon P w v ((execOp a.eval o).run P w)
/-- One value, in every world behind w0; a call leaves what was there. -/
def calm (P : Program) (o : Oper) (a : Act) (w0 : World) (next : Act → Prop) : Prop := ∃ v, (∀ x : After w0, calmAt P o a x.at_ v) ∧ next (a.put o.dst v)

def wpCalm (P : Program) (ops : Array Oper) (w0 : World) (Q : Act → Prop) : List Oper → Act → Prop
  | [], a => Q a
  | o :: rest, a => if Region.wanted o (yielded ops a.tmps) then calm P o a w0 (wpCalm P ops w0 Q rest) else wpCalm P ops w0 Q rest (a.put o.dst undef)
theorem wpCalm_nil {Q : Act → Prop} {a : Act} (h : Q a) : wpCalm P ops w0 Q [] a := h
theorem wpCalm_step {Q : Act → Prop} {a : Act} {o : Oper} {rest : List Oper}
    (h : ∀ K : Act → Prop, (∀ a, wpCalm P ops w0 Q rest a → K a) → if Region.wanted o (yielded ops a.tmps) then calm P o a w0 K else K (a.put o.dst undef)) : wpCalm P ops w0 Q (o :: rest) a :=
  h _ (fun _ h => h)

def freshOp (o : Oper) : Bool := match o.op with
  | .alloc _ => true
  | .box _ _ => true
  | _ => false
def freshAt (P : Program) (o : Oper) (a : Act) (w0 : World) (obj : Obj) : Prop :=
  ∀ x : After w0, (execOp a.eval o).run P x.at_ = .ok (.value (.pointer (some ⟨x.at_.heap.size, 0, none⟩))) (x.at_.alloc obj)

/-- Operations that hand a value on, whatever the world. -/
def handsB (o : Oper) : Bool := match o.op with
  | .extract _ _ => true
  | .move _ => true
  | .assign _ => true
  | _ => false
theorem hands_all {o : Oper} {a : Act} {w : World} {v : Value} (ho : handsB o = true) (h : calmAt P o a w v) : ∀ w', (execOp a.eval o).run P w' = .ok (.value v) w' := by
  obtain ⟨dst, op, ty, pos, after, guard⟩ := o
  cases op <;> simp only [handsB, Bool.false_eq_true] at ho
  case move x =>
    intro w'
    have h1 : ∀ w : World, (execOp a.eval ⟨dst, .move x, ty, pos, after, guard⟩).run P w = .ok (.value (a.eval x)) w := fun w => rfl
    unfold calmAt at h
    rw [h1] at h ⊢
    rw [h.2]
  case assign x =>
    intro w'
    have h1 : ∀ w : World, (execOp a.eval ⟨dst, .assign x, ty, pos, after, guard⟩).run P w = .ok (.value (a.eval x)) w := fun w => rfl
    unfold calmAt at h
    rw [h1] at h ⊢
    rw [h.2]
  case extract x i =>
    intro w'
    unfold calmAt at h
    simp only [execOp, Instr.extract] at h ⊢
    generalize a.eval x = y at *
    cases y <;> simp [calmUpon] at h ⊢
    rename_i vs
    generalize vs[i]? = z at *
    cases z <;> simp at h ⊢
    exact h

def preOp (P : Program) (ops : Array Oper) (w0 : World) (i : Nat) (K : Act → Prop) (a : Act) : Prop :=
  match ops[i]? with
  | none => K a
  | some o => if Region.wanted o (yielded ops a.tmps) then calm P o a w0 K else K (a.put o.dst undef)
def newOp (P : Program) (ops : Array Oper) (w0 : World) (o : Oper) (K : Act → (World → Prop) → Prop) (a : Act) (F : World → Prop) : Prop :=
  if Region.wanted o (yielded ops a.tmps) then
    ∃ obj, freshAt P o a w0 obj ∧ ∀ b, w0.heap.size ≤ b → K (a.put o.dst (.pointer (some ⟨b, 0, none⟩))) (fun w => F w ∧ w.heap[b]? = some obj)
  else K (a.put o.dst undef) F
def newOpAt (P : Program) (ops : Array Oper) (w0 : World) (i : Nat) (K : Act → (World → Prop) → Prop) (a : Act) (F : World → Prop) : Prop :=
  match ops[i]? with
  | none => K a F
  | some o => newOp P ops w0 o K a F
def isFresh (ops : Array Oper) (i : Nat) : Bool := match ops[i]? with
  | some o => freshOp o
  | none => false

theorem calm_mono {o : Oper} {a : Act} {K K' : Act → Prop} (h : ∀ a, K a → K' a) (hh : calm P o a w0 K) : calm P o a w0 K' :=
  let ⟨v, h1, h2⟩ := hh
  ⟨v, h1, h _ h2⟩
theorem preOp_mono {i : Nat} {a : Act} {K K' : Act → Prop} (h : ∀ a, K a → K' a) (hh : preOp P ops w0 i K a) : preOp P ops w0 i K' a := by
  unfold preOp at *
  split
  · exact h _ (by simpa [*] using hh)
  · rename_i o ho
    simp only [ho] at hh
    split
    · rename_i hw; simp only [hw, if_true] at hh; exact calm_mono h hh
    · rename_i hw; simp only [hw] at hh; exact h _ hh
theorem newOp_mono {o : Oper} {a : Act} {F : World → Prop} {K K' : Act → (World → Prop) → Prop} (h : ∀ a F, K a F → K' a F) (hh : newOp P ops w0 o K a F) : newOp P ops w0 o K' a F := by
  unfold newOp at *
  split
  · rename_i hw; simp only [hw, if_true] at hh
    obtain ⟨obj, h1, h2⟩ := hh
    exact ⟨obj, h1, fun b hb => h _ _ (h2 b hb)⟩
  · rename_i hw; simp only [hw] at hh; exact h _ _ hh

/-- Whatever order is picked from here on; 'p' says which operations are calm. -/
def anyC (P : Program) (md : Region.Mode) (ops : Array Oper) (w0 : World) (p : List Nat) (Q : Exit → Act → World → Prop) : Nat → Array Bool → Act → (World → Prop) → Prop
  | 0, listed, a, F => Region.ready md ops listed = [] ∧ ∀ x : After w0, F x.at_ → Q .normal a x.at_
  | f + 1, listed, a, F =>
    (Region.ready md ops listed = [] → ∀ x : After w0, F x.at_ → Q .normal a x.at_) ∧
    ∀ j ∈ Region.ready md ops listed,
      if p.contains j then preOp P ops w0 j (fun a' => anyC P md ops w0 p Q f (listed.setIfInBounds j true) a' F) a
      else if isFresh ops j then newOpAt P ops w0 j (anyC P md ops w0 p Q f (listed.setIfInBounds j true)) a F
      else ∀ x : After w0, F x.at_ → wpOp P ops Q j (wpAny P md ops Q f (listed.setIfInBounds j true)) a x.at_

theorem wpAny_of_anyC {p : List Nat} {Q : Exit → Act → World → Prop} : ∀ (f : Nat) (listed : Array Bool) (a : Act) (F : World → Prop), Stable F → anyC P md ops w0 p Q f listed a F →
    ∀ x : After w0, F x.at_ → wpAny P md ops Q f listed a x.at_
  | 0, _, _, _, _, h, x, hx => ⟨h.1, h.2 x hx⟩
  | f + 1, listed, a, F, hF, h, x, hx => by
    refine ⟨fun h0 => h.1 h0 x hx, fun j hj => ?_⟩
    have hj' := h.2 j hj
    by_cases hp : p.contains j = true
    · rw [if_pos hp] at hj'
      unfold preOp at hj'
      unfold wpOp
      cases ho : ops[j]? with
      | none => simp only [ho] at hj' ⊢; exact wpAny_of_anyC f _ _ _ hF hj' x hx
      | some o =>
        simp only [ho] at hj' ⊢
        split
        · rename_i hw
          simp only [hw, if_true] at hj'
          obtain ⟨v, h1, h2⟩ := hj'
          have h3 := h1 x
          unfold calmAt at h3
          refine .inl ?_
          unfold Oper.wp
          generalize (execOp a.eval o).run P x.at_ = r at *
          cases r with
          | ok n w' =>
            cases n <;> simp only [calmUpon] at h3 <;> simp only [Oper.upon]
            case value u =>
              obtain ⟨e1, e2⟩ := h3
              rw [e1, e2]
              exact wpAny_of_anyC f _ _ _ hF h2 x hx
            case skip =>
              obtain ⟨e1, e2⟩ := h3
              rw [e1, ← e2]
              exact wpAny_of_anyC f _ _ _ hF h2 x hx
            case enter fn args =>
              obtain ⟨e1, hc⟩ := h3
              rw [e1]
              exact hc.mono fun e w'' ⟨he, hw''⟩ => by
                subst he
                exact wpAny_of_anyC f _ _ _ hF h2 (x.later hw'') (hF _ _ hw'' hx)
          | halt y w' => simp only [calmUpon] at h3
        · rename_i hw
          simp only [hw] at hj'
          exact wpAny_of_anyC f _ _ _ hF hj' x hx
    · rw [if_neg hp] at hj'
      by_cases hf : isFresh ops j = true
      · rw [if_pos hf] at hj'
        unfold newOpAt newOp at hj'
        unfold wpOp
        cases ho : ops[j]? with
        | none => simp only [ho] at hj' ⊢; exact wpAny_of_anyC f _ _ _ hF hj' x hx
        | some o =>
          simp only [ho] at hj' ⊢
          split
          · rename_i hw
            simp only [hw, if_true] at hj'
            obtain ⟨obj, h1, h2⟩ := hj'
            refine .inl ?_
            unfold Oper.wp
            rw [h1 x]
            simp only [Oper.upon]
            have hbl : Below x.at_.heap.size x.at_ (x.at_.alloc obj) := (Below.refl _ _).alloc (Nat.le_refl _) _
            exact wpAny_of_anyC f _ _ _ (stable_blk hF _ _) (h2 x.at_.heap.size x.below.size) (x.later hbl) ⟨hF _ _ hbl hx, heap_alloc_new x.at_ _⟩
          · rename_i hw
            simp only [hw] at hj'
            exact wpAny_of_anyC f _ _ _ hF hj' x hx
      · rw [if_neg hf] at hj'
        exact hj' x hx

def YieldsC (P : Program) (ops : Array Oper) (w0 : World) (o : Oper) (v : Value) (a : Act) : Prop :=
  (Region.wanted o (yielded ops a.tmps) = true ∧ ∀ x : After w0, calmAt P o a x.at_ v) ∨ (Region.wanted o (yielded ops a.tmps) = false ∧ v = undef)
theorem YieldsC.preOp {i : Nat} {o : Oper} {v : Value} {a : Act} (hi : ops[i]? = some o) (hy : YieldsC P ops w0 o v a) {K : Act → Prop} (h : K (a.put o.dst v)) : preOp P ops w0 i K a := by
  unfold Go.Proofs.YtbjealobiblabaaGreatDoor.preOp
  simp only [hi]
  rcases hy with ⟨hw, hv⟩ | ⟨hw, rfl⟩
  · simp only [hw, if_true]; exact ⟨v, hv, h⟩
  · simp only [hw, Bool.false_eq_true, if_false]; exact h
theorem YieldsC.of_same {o : Oper} {v : Value} {a a' : Act} (hy : YieldsC P ops w0 o v a) (he : execOp a'.eval o = execOp a.eval o)
    (hw : Region.wanted o (yielded ops a'.tmps) = Region.wanted o (yielded ops a.tmps)) : YieldsC P ops w0 o v a' := by
  unfold YieldsC calmAt at *
  rw [he, hw]
  exact hy
theorem yieldsC_of_preOp {i : Nat} {o : Oper} {a : Act} {K : Act → Prop} (hi : ops[i]? = some o) (h : preOp P ops w0 i K a) : ∃ v, YieldsC P ops w0 o v a ∧ K (a.put o.dst v) := by
  unfold preOp at h
  simp only [hi] at h
  by_cases hw : Region.wanted o (yielded ops a.tmps) = true
  · simp only [hw, if_true] at h
    obtain ⟨v, h1, h2⟩ := h
    exact ⟨v, .inl ⟨hw, h1⟩, h2⟩
  · simp only [hw] at h
    exact ⟨undef, .inr ⟨by simpa using hw, rfl⟩, h⟩

theorem preOp_put {j : Nat} {oi oj : Oper} {v : Value} (hj : ops[j]? = some oj) (hap : oi.apart ops oj = true)
    (hsi : ∀ cs b, oi.op ≠ .select cs b) (hsj : ∀ cs b, oj.op ≠ .select cs b) {K : Act → Prop} {a : Act}
    (hy : YieldsC P ops w0 oi v a) (h : preOp P ops w0 j K (a.put oi.dst v)) :
    preOp P ops w0 j (fun a' => YieldsC P ops w0 oi v a' ∧ K (a'.put oi.dst v)) a := by
  obtain ⟨h1, h2, h3⟩ := Oper.apart_spec hap
  have keep : ∀ (a : Act), YieldsC P ops w0 oi v a → ∀ u, YieldsC P ops w0 oi v (a.put oj.dst u) := fun a hy u =>
    hy.of_same (execOp_put oi hsi a oj.dst u h3) (wanted_put oi a oj.dst u h3)
  unfold preOp at *
  simp only [hj] at *
  rw [wanted_put oj a oi.dst v h1] at h
  split
  · rename_i hw
    simp only [hw, if_true] at h
    obtain ⟨u, hu, hn⟩ := h
    refine ⟨u, fun x => ?_, keep a hy u, by rw [← Act.put_comm a v u h2]; exact hn⟩
    have := hu x
    unfold calmAt at *
    rwa [execOp_put oj hsj a oi.dst v h1] at this
  · rename_i hw
    simp only [hw] at h
    exact ⟨keep a hy _, by rw [← Act.put_comm a v undef h2]; exact h⟩

theorem newOp_put {oi oj : Oper} {v : Value} (hap : oi.apart ops oj = true)
    (hsi : ∀ cs b, oi.op ≠ .select cs b) (hsj : ∀ cs b, oj.op ≠ .select cs b) {K : Act → (World → Prop) → Prop} {a : Act} {F : World → Prop}
    (hy : YieldsC P ops w0 oi v a) (h : newOp P ops w0 oj K (a.put oi.dst v) F) :
    newOp P ops w0 oj (fun a' F' => YieldsC P ops w0 oi v a' ∧ K (a'.put oi.dst v) F') a F := by
  obtain ⟨h1, h2, h3⟩ := Oper.apart_spec hap
  have keep : ∀ (a : Act), YieldsC P ops w0 oi v a → ∀ u, YieldsC P ops w0 oi v (a.put oj.dst u) := fun a hy u =>
    hy.of_same (execOp_put oi hsi a oj.dst u h3) (wanted_put oi a oj.dst u h3)
  unfold newOp at *
  rw [wanted_put oj a oi.dst v h1] at h
  split
  · rename_i hw
    simp only [hw, if_true] at h
    obtain ⟨obj, ho, hn⟩ := h
    refine ⟨obj, fun x => ?_, fun b hb => ⟨keep a hy _, by rw [← Act.put_comm a v _ h2]; exact hn b hb⟩⟩
    have := ho x
    rwa [execOp_put oj hsj a oi.dst v h1] at this
  · rename_i hw
    simp only [hw] at h
    exact ⟨keep a hy _, by rw [← Act.put_comm a v undef h2]; exact h⟩

/-- What is listed is closed under 'waits for'. -/
def Closed (md : Region.Mode) (ops : Array Oper) (listed : Array Bool) : Prop :=
  listed.size = ops.size ∧ ∀ j oj, ops[j]? = some oj → listed.getD j false = true → ∀ e ∈ oj.after, Region.binds md e = true → listed.getD e.on false = true
theorem Closed.set_ {i : Nat} {listed : Array Bool} (inv : Closed md ops listed) (hi : i ∈ Region.ready md ops listed) : Closed md ops (listed.setIfInBounds i true) := by
  obtain ⟨_, oi, hoi, hall⟩ := mem_ready.1 hi
  refine ⟨by simp [inv.1], fun j oj hj hl e he hb => ?_⟩
  by_cases hij : i = j
  · subst hij
    have : oj = oi := Option.some.inj (hj.symm.trans hoi)
    subst this
    exact getD_set_true (hall e he hb)
  · rw [getD_set_ne false hij] at hl
    exact getD_set_true (inv.2 j oj hj hl e he hb)

/-- 's' waits, by steps, for 'i'. -/
def reach (md : Region.Mode) (ops : Array Oper) (s : Nat) : Nat → Nat → Bool
  | 0, _ => false
  | f + 1, i => (List.range ops.size).any fun j => Region.waitsFor md ops j i && (decide (j = s) || reach md ops s f j)
theorem reach_spec {s : Nat} {listed : Array Bool} (inv : Closed md ops listed) (hsr : s ∈ Region.ready md ops listed) :
    ∀ (f i : Nat), reach md ops s f i = true → listed.getD i true = true := by
  intro f
  induction f with
  | zero => intro i h; cases h
  | succ f ih =>
    intro i h
    obtain ⟨j, hj, hj2⟩ := List.any_eq_true.1 h
    have hjs : j < ops.size := List.mem_range.1 hj
    simp only [Bool.and_eq_true, Bool.or_eq_true, decide_eq_true_eq] at hj2
    obtain ⟨hw, hr⟩ := hj2
    obtain ⟨oj, hoj, e, he, hb, hon⟩ := Region.waitsFor_spec hw
    have fin : listed.getD i false = true → listed.getD i true = true := fun h => by
      rcases Nat.lt_or_ge i listed.size with h' | h'
      · simp [h'] at h ⊢; exact h
      · simp [Array.getElem?_eq_none h']
    rcases hr with rfl | hr
    · obtain ⟨_, os, hos, hall⟩ := mem_ready.1 hsr
      have : os = oj := Option.some.inj (hos.symm.trans hoj)
      subst this
      have := hall e he hb
      rw [hon] at this
      exact fin this
    · have h2 := ih j hr
      have hjl : j < listed.size := by rw [inv.1]; exact hjs
      have h3 : listed.getD j false = true := by simp [hjl] at h2 ⊢; exact h2
      have := inv.2 j oj hoj h3 e he hb
      rw [hon] at this
      exact fin this
def handsAt (ops : Array Oper) (i : Nat) : Bool := match ops[i]? with
  | some o => handsB o
  | none => false
/-- 's' waits for every operation of 'p'; with 'u': but for those that hand a value on. -/
def sinks (md : Region.Mode) (ops : Array Oper) (u : Bool) (p : List Nat) (s : Nat) : Bool :=
  p.all fun i => (u && handsAt ops i) || reach md ops s ops.size i

/-- A calm operation that may come up now may be taken first. -/
theorem anyC_first {u : Bool} {p : List Nat} {Q : Exit → Act → World → Prop} {i : Nat} {oi : Oper} {v : Value} (hi : ops[i]? = some oi) (hip : p.contains i = true)
    (hsel : ∀ (j : Nat) (o : Oper) cs b, ops[j]? = some o → o.op ≠ .select cs b)
    (hQ : u = true → ∀ c a w d v, Q (.panic c) (Act.put a d v) w → Q (.panic c) a w)
    (hsink : ∀ j, j < ops.size → p.contains j = false → isFresh ops j = false → sinks md ops u p j = true) :
    ∀ (f : Nat) (listed : Array Bool) (a : Act) (F : World → Prop), Closed md ops listed →
      (∀ j oj, ops[j]? = some oj → j ≠ i → listed.getD j true = false → (∀ e ∈ oj.after, Region.binds md e = true → e.on ≠ i) → oi.apart ops oj = true) →
      i ∈ Region.ready md ops listed → YieldsC P ops w0 oi v a →
      anyC P md ops w0 p Q f (listed.setIfInBounds i true) (a.put oi.dst v) F → anyC P md ops w0 p Q (f + 1) listed a F := by
  intro f
  induction f with
  | zero =>
    intro listed a F inv _ hr hy H
    refine ⟨fun h => (by rw [h] at hr; cases hr), fun j hj => ?_⟩
    by_cases hji : j = i
    · subst hji; rw [if_pos hip]; exact hy.preOp hi H
    · have := ready_mono hj hji
      rw [H.1] at this
      cases this
  | succ f ih =>
    intro listed a F inv hfree hr hy H
    refine ⟨fun h => (by rw [h] at hr; cases hr), fun j hj => ?_⟩
    by_cases hji : j = i
    · subst hji; rw [if_pos hip]; exact hy.preOp hi H
    · have h1 := H.2 j (ready_mono hj hji)
      obtain ⟨hjun, oj, hoj, hall⟩ := mem_ready.1 hj
      have hnot : ∀ e ∈ oj.after, Region.binds md e = true → e.on ≠ i := fun e he hb heq => by
        have h1 := hall e he hb
        have h0 := (mem_ready.1 hr).1
        rw [heq] at h1
        rcases Nat.lt_or_ge i listed.size with h' | h'
        · simp [h'] at h0 h1; rw [h0] at h1; cases h1
        · simp [Array.getElem?_eq_none h'] at h1
      have hap := hfree j oj hoj hji hjun hnot
      have hfree' : ∀ k ok, ops[k]? = some ok → k ≠ i → (listed.setIfInBounds j true).getD k true = false →
          (∀ e ∈ ok.after, Region.binds md e = true → e.on ≠ i) → oi.apart ops ok = true := fun k ok hk hki hun hno => by
        refine hfree k ok hk hki ?_ hno
        by_cases hjk : j = k
        · subst hjk; exact hjun
        · rw [getD_set_ne true hjk] at hun; exact hun
      by_cases hp : p.contains j = true
      · rw [if_pos hp] at h1 ⊢
        have h2 := preOp_put hoj hap (fun cs b => hsel i oi cs b hi) (fun cs b => hsel j oj cs b hoj) hy h1
        refine preOp_mono (fun a' h3 => ih (listed.setIfInBounds j true) a' F (inv.set_ hj) hfree' (ready_mono hr (Ne.symm hji)) h3.1 ?_) h2
        rw [Array.setIfInBounds_comm _ _ hji]
        exact h3.2
      · rw [if_neg hp] at h1 ⊢
        by_cases hf : isFresh ops j = true
        · rw [if_pos hf] at h1 ⊢
          unfold newOpAt at h1 ⊢
          simp only [hoj] at h1 ⊢
          have h2 := newOp_put hap (fun cs b => hsel i oi cs b hi) (fun cs b => hsel j oj cs b hoj) hy h1
          refine newOp_mono (fun a' F' h3 => ih (listed.setIfInBounds j true) a' F' (inv.set_ hj) hfree' (ready_mono hr (Ne.symm hji)) h3.1 ?_) h2
          rw [Array.setIfInBounds_comm _ _ hji]
          exact h3.2
        · rw [if_neg hf] at h1 ⊢
          have hjs : j < ops.size := (Array.getElem?_eq_some_iff.1 hoj).1
          have h3 := List.all_eq_true.1 (hsink j hjs (by simpa using hp) (by simpa using hf)) i (by simpa using hip)
          rw [Bool.or_eq_true, Bool.and_eq_true] at h3
          rcases h3 with ⟨hu, hh⟩ | h3
          · have hh' : handsB oi = true := by unfold handsAt at hh; simp only [hi] at hh; exact hh
            have hyy : Yields P ops oi v a := by
              rcases hy with ⟨hw, hv⟩ | hn
              · exact .inl ⟨hw, hands_all hh' (hv ⟨w0, Below.refl _ _⟩)⟩
              · exact .inr hn
            intro x hx
            have hQ' : ∀ c a w, Q (.panic c) (Act.put a oi.dst v) w → Q (.panic c) a w := fun c a w => hQ hu c a w oi.dst v
            have h4 := wpOp_put hoj hap (fun cs b => hsel i oi cs b hi) (fun cs b => hsel j oj cs b hoj) hQ' hyy (h1 x hx)
            refine wpOp_mono (fun a' w' h5 => wpAny_first hi hsel hQ' f (listed.setIfInBounds j true) a' w' hfree' (ready_mono hr (Ne.symm hji)) h5.1 ?_) h4
            rw [Array.setIfInBounds_comm _ _ hji]
            exact h5.2
          · exfalso
            have h3 := reach_spec inv hj _ i h3
            have h0 := (mem_ready.1 hr).1
            rw [h3] at h0
            cases h0

def pick (l : List Oper) : List Nat → List Oper
  | [] => []
  | i :: r => match l[i]? with
    | some o => o :: pick l r
    | none => pick l r

/-- The calm ones in this order, then the others in theirs: each may come up; the others are alone. -/
def seqGo (md : Region.Mode) (ops : Array Oper) : List Nat → Array Bool → Bool
  | [], listed => (Region.ready md ops listed).isEmpty
  | k :: t, listed => decide (Region.ready md ops listed = [k]) && seqGo md ops t (listed.setIfInBounds k true)
def calmGo (md : Region.Mode) (ops : Array Oper) (t : List Nat) : List Nat → Array Bool → Bool
  | [], listed => seqGo md ops t listed
  | i :: r, listed => (Region.ready md ops listed).contains i && (Region.free md ops listed i && calmGo md ops t r (listed.setIfInBounds i true))
def calmB (ops : Array Oper) (u : Bool) (p t : List Nat) : Bool :=
  Region.noSelect ops && (decide (p.length + t.length = ops.size) && (((List.range ops.size).all fun j => p.contains j || (isFresh ops j || sinks .any ops u p j)) && calmGo .any ops t p (Array.replicate ops.size false)))

def wpTail (P : Program) (ops : Array Oper) (w0 : World) (Q : Exit → Act → World → Prop) : List Oper → Act → (World → Prop) → Prop
  | [], a, F => ∀ x : After w0, F x.at_ → Q .normal a x.at_
  | o :: rest, a, F => if freshOp o then newOp P ops w0 o (wpTail P ops w0 Q rest) a F else ∀ x : After w0, F x.at_ → wpList P ops Q (o :: rest) a x.at_

theorem wpAny_of_list {p : List Nat} {Q : Exit → Act → World → Prop} {w : World} : ∀ (t : List Nat) (listed : Array Bool) (a : Act), (∀ i ∈ t, i < ops.size) → seqGo md ops t listed = true →
    wpList P ops Q (pick ops.toList t) a w → wpAny P md ops Q t.length listed a w
  | [], listed, a, _, hB, h => ⟨by simpa [seqGo] using hB, h⟩
  | k :: t, listed, a, hlt, hB, h => by
    simp only [seqGo, Bool.and_eq_true, decide_eq_true_eq] at hB
    refine ⟨fun h1 => (by rw [hB.1] at h1; cases h1), fun i hi => ?_⟩
    rw [hB.1] at hi
    have hik : i = k := by simpa using hi
    subst hik
    have hi' := hlt i (by simp)
    have ho : ops[i]? = some ops[i] := Array.getElem?_eq_getElem hi'
    have hol : ops.toList[i]? = some ops[i] := by simp
    simp only [pick, hol] at h
    have hw : wpOp P ops Q i (wpList P ops Q (pick ops.toList t)) a w := by unfold wpOp; simp only [ho]; exact h
    exact wpOp_mono (fun a' w' h' => wpAny_of_list (p := p) t _ a' (fun j hj => hlt j (by simp [hj])) hB.2 h') hw

theorem anyC_of_tail {p : List Nat} {Q : Exit → Act → World → Prop} : ∀ (t : List Nat) (listed : Array Bool) (a : Act) (F : World → Prop), (∀ i ∈ t, i < ops.size ∧ p.contains i = false) → seqGo md ops t listed = true →
    wpTail P ops w0 Q (pick ops.toList t) a F → anyC P md ops w0 p Q t.length listed a F
  | [], listed, a, F, _, hB, h => ⟨by simpa [seqGo] using hB, h⟩
  | k :: t, listed, a, F, hlt, hB, h => by
    have hB' := hB
    simp only [seqGo, Bool.and_eq_true, decide_eq_true_eq] at hB
    refine ⟨fun h1 => (by rw [hB.1] at h1; cases h1), fun i hi => ?_⟩
    rw [hB.1] at hi
    have hik : i = k := by simpa using hi
    subst hik
    obtain ⟨hi', hip⟩ := hlt i (by simp)
    have ho : ops[i]? = some ops[i] := Array.getElem?_eq_getElem hi'
    have hol : ops.toList[i]? = some ops[i] := by simp
    simp only [pick, hol, wpTail] at h
    rw [if_neg (by rw [hip]; exact Bool.false_ne_true)]
    have hfr : isFresh ops i = freshOp ops[i] := by unfold isFresh; simp only [ho]
    by_cases hf : isFresh ops i = true
    · rw [if_pos hf]
      rw [if_pos (by rw [← hfr]; exact hf)] at h
      unfold newOpAt
      simp only [ho]
      exact newOp_mono (fun a' F' h' => anyC_of_tail t _ a' F' (fun j hj => hlt j (by simp [hj])) hB.2 h') h
    · rw [if_neg hf]
      rw [if_neg (by rw [← hfr]; exact hf)] at h
      intro x hx
      have := wpAny_of_list (P := P) (md := md) (p := p) (Q := Q) (i :: t) listed a (fun j hj => (hlt j hj).1) hB' (by simp only [pick, hol]; exact h x hx)
      exact this.2 i (by rw [hB.1]; simp)

theorem anyC_of_calm {u : Bool} {p t : List Nat} {Q : Exit → Act → World → Prop} (hQ : u = true → ∀ c a w d v, Q (.panic c) (Act.put a d v) w → Q (.panic c) a w) (hsel : Region.noSelect ops = true) (ht : ∀ i ∈ t, i < ops.size ∧ p.contains i = false)
    (hsink : ∀ j, j < ops.size → p.contains j = false → isFresh ops j = false → sinks md ops u p j = true) :
    ∀ (l : List Nat) (listed : Array Bool) (a : Act) (F : World → Prop), (∀ i ∈ l, i < ops.size ∧ p.contains i = true) → Closed md ops listed → calmGo md ops t l listed = true →
      wpCalm P ops w0 (fun a' => wpTail P ops w0 Q (pick ops.toList t) a' F) (pick ops.toList l) a → anyC P md ops w0 p Q (l.length + t.length) listed a F
  | [], listed, a, F, _, _, hB, h => by
    have := anyC_of_tail (P := P) (md := md) (w0 := w0) (p := p) (Q := Q) t listed a F ht hB h
    simpa using this
  | i :: l, listed, a, F, hl, inv, hB, h => by
    simp only [calmGo, Bool.and_eq_true] at hB
    obtain ⟨hr, hf, hB'⟩ := hB
    obtain ⟨hi', hip⟩ := hl i (by simp)
    have ho : ops[i]? = some ops[i] := Array.getElem?_eq_getElem hi'
    have hol : ops.toList[i]? = some ops[i] := by simp
    simp only [pick, hol] at h
    have hst : preOp P ops w0 i (wpCalm P ops w0 (fun a' => wpTail P ops w0 Q (pick ops.toList t) a' F) (pick ops.toList l)) a := by unfold preOp; simp only [ho]; exact h
    obtain ⟨v, hy, hK⟩ := yieldsC_of_preOp ho hst
    have hr' : i ∈ Region.ready md ops listed := by simpa using hr
    have e : (i :: l).length + t.length = (l.length + t.length) + 1 := by simp only [List.length_cons]; omega
    rw [e]
    exact anyC_first ho hip (Region.noSelect_spec hsel) hQ hsink _ listed a F inv (Region.free_spec ho hf) hr' hy
      (anyC_of_calm hQ hsel ht hsink l _ _ F (fun j hj => hl j (by simp [hj])) (inv.set_ hr') hB' hK)

theorem wp_region_calmU {id : Nat} {Q : Exit → Act → World → Prop} {a : Act} {w : World} {l : List Oper} (u : Bool) (p t : List Nat) (hQ : u = true → ∀ c a w d v, Q (.panic c) (Act.put a d v) w → Q (.panic c) a w) (hm : P.follows .mixedOrders = true) (hB : calmB l.toArray u p t = true)
    (hp : (p.all fun i => decide (i < l.length)) = true) (ht : (t.all fun i => decide (i < l.length) && !p.contains i) = true)
    (h : wpCalm P l.toArray w (fun a' => wpTail P l.toArray w Q (pick l t) a' (fun _ => True)) (pick l p) a) : (Code.region id l.toArray true).wp P Q a w := by
  simp only [calmB, Bool.and_eq_true, decide_eq_true_eq] at hB
  obtain ⟨hsel, hlen, hall, hgo⟩ := hB
  refine wp_region_any hm ?_
  have inv0 : Closed .any l.toArray (Array.replicate l.toArray.size false) := ⟨by simp, fun j oj _ hl => (by rw [getD_replicate_false] at hl; cases hl)⟩
  have H := anyC_of_calm (P := P) (md := .any) (w0 := w) (Q := Q) (p := p) (t := t) hQ hsel
    (fun i hi => by
      have := List.all_eq_true.1 ht i hi
      simp only [Bool.and_eq_true, decide_eq_true_eq, Bool.not_eq_true'] at this
      exact ⟨by simpa using this.1, this.2⟩)
    (fun j hj hjp hjf => by
      have := List.all_eq_true.1 hall j (List.mem_range.2 hj)
      rw [hjp, hjf] at this
      simpa using this)
    p _ a (fun _ => True)
    (fun i hi => ⟨by have := List.all_eq_true.1 hp i hi; simpa using this, by simpa using hi⟩) inv0 hgo (by simpa using h)
  rw [hlen] at H
  exact wpAny_of_anyC _ _ _ _ stable_true H ⟨w.drew, (Below.refl _ _).drew⟩ trivial
theorem wp_region_calm {id : Nat} {Q : Exit → Act → World → Prop} {a : Act} {w : World} {l : List Oper} (p t : List Nat) (hm : P.follows .mixedOrders = true) (hB : calmB l.toArray false p t = true)
    (hp : (p.all fun i => decide (i < l.length)) = true) (ht : (t.all fun i => decide (i < l.length) && !p.contains i) = true)
    (h : wpCalm P l.toArray w (fun a' => wpTail P l.toArray w Q (pick l t) a' (fun _ => True)) (pick l p) a) : (Code.region id l.toArray true).wp P Q a w :=
  wp_region_calmU false p t (fun e => by cases e) hm hB hp ht h
end

section
variable {P : Program} {ops : Array Oper} {w0 : World} {Q : Exit → Act → World → Prop} {a : Act} {F : World → Prop} {o : Oper} {rest : List Oper}
theorem wpTail_end (h : ∀ w', Below w0.heap.size w0 w' → F w' → Q .normal a w') : wpTail P ops w0 Q [] a F := fun x hx => h x.at_ x.below hx
theorem wpTail_list (hf : freshOp o = false) (h : ∀ w', Below w0.heap.size w0 w' → F w' → wpList P ops Q (o :: rest) a w') : wpTail P ops w0 Q (o :: rest) a F := by
  unfold wpTail
  rw [if_neg (by rw [hf]; exact Bool.false_ne_true)]
  exact fun x hx => h x.at_ x.below hx
theorem wpTail_fresh {obj : Obj} (hf : freshOp o = true) (hg : o.guard = none) (ho : freshAt P o a w0 obj)
    (h : ∀ b, w0.heap.size ≤ b → wpTail P ops w0 Q rest (a.put o.dst (.pointer (some ⟨b, 0, none⟩))) (fun w => F w ∧ w.heap[b]? = some obj)) : wpTail P ops w0 Q (o :: rest) a F := by
  unfold wpTail
  rw [if_pos hf]
  unfold newOp
  rw [if_pos (by simp [Region.wanted, hg])]
  exact ⟨obj, ho, h⟩
end
end Go.Proofs.YtbjealobiblabaaGreatDoor

namespace Go.Proofs.YtbjealobiblabaaGreatDoor
open Go Go.RowKit
/-- The call gives this value; what was there before is as it was. -/
def Gives (f : FuncId) (args : Array Value) (w : World) (v : Value) : Prop := Calls Tryz.prog f args w fun e w' => e = .returned v ∧ Below w.heap.size w w'
theorem Gives.use {f : FuncId} {args : Array Value} {w : World} {v : Value} {R : Ending → World → Prop} (h : Gives f args w v) (k : ∀ w1, Below w.heap.size w w1 → R (.returned v) w1) : Calls Tryz.prog f args w R :=
  Calls.mono h fun e w1 ⟨he, hb⟩ => by subst he; exact k w1 hb
theorem Gives.calm {f : FuncId} {args : Array Value} {w : World} {v : Value} (h : Gives f args w v) : Calls Tryz.prog f args w (fun e w' => e = .returned v ∧ Below w.heap.size w w') := h
theorem gives {f : FuncId} {args : Array Value} {w : World} {v : Value} (h : Calls Tryz.prog f args w fun e w' => e = .returned v ∧ Below w.heap.size w w') : Gives f args w v := h
theorem Gives.as {f : FuncId} {args : Array Value} {w : World} {v v' : Value} (h : Gives f args w v) (e : v = v') : Gives f args w v' := e ▸ h
theorem below_call {B : Nat} {w W w1 : World} (h : Below B w W) (hb : Below W.heap.size W w1) (hB : B ≤ W.heap.size) : Below B w w1 := h.trans (hb.mono hB)
theorem bcell {W w1 : World} (hb : Below W.heap.size W w1) : (∀ b o, b < W.heap.size → w1.cell? ⟨b, o, none⟩ = W.cell? ⟨b, o, none⟩) ∧ (∀ b o, b < W.heap.size → w1.frozen? ⟨b, o, none⟩ = W.frozen? ⟨b, o, none⟩) :=
  ⟨fun b o h => hb.cell (p := ⟨b, o, none⟩) h, fun b o h => hb.frozen (p := ⟨b, o, none⟩) h⟩
theorem imax (a b : Int) : (if a < b then b else a) = max a b := by omega
theorem imin (a b : Int) : (if b < a then b else a) = min a b := by omega
theorem ret_int {k : IntKind} {a b : Int} (h : a = b) : Ending.returned (.int k a) = .returned (.int k b) := by rw [h]
theorem ret_bool {a b : Bool} (h : a = b) : Ending.returned (.bool a) = .returned (.bool b) := by rw [h]
theorem ret_v {a b : Value} (h : a = b) : Ending.returned a = .returned b := by rw [h]
theorem agg_two {k l : IntKind} {a a' b b' : Int} (h : a = a') (h' : b = b') : Value.agg #[.int k a, .int l b] = .agg #[.int k a', .int l b'] := by rw [h, h']

theorem tup_two {k l : IntKind} {a a' b b' : Int} (h : a = a') (h' : b = b') : Value.tuple #[.int k a, .int l b] = .tuple #[.int k a', .int l b'] := by rw [h, h']
theorem block_of_add (a : Addr) (n : Nat) : (a.add n).block = a.block := by unfold Addr.add; split <;> rfl
theorem add_of_add (a : Addr) (i j : Nat) : (a.add i).add j = a.add (i + j) := by
  unfold Addr.add
  by_cases hi : i = 0 <;> by_cases hj : j = 0 <;> simp [hi, hj, Nat.add_assoc]
/-- The slice value '.slice A n c' holds the cells xs ('size' a element), and lies below block B. -/
def Reads (w : World) (B size : Nat) (A : Option Addr) (n : Nat) (xs : List Value) : Prop :=
  xs.length = n * size ∧ (0 < n → ∃ b o, A = some ⟨b, o, none⟩ ∧ b < B ∧ ∀ j u, xs[j]? = some u → w.cell? ⟨b, o + j, none⟩ = some u)
section
variable {w w' : World} {B B' size n : Nat} {A : Option Addr} {xs : List Value}
theorem Reads.none_ : Reads w B size A 0 [] := ⟨by simp, fun h => absurd h (by omega)⟩
theorem Reads.at_ {k : Nat} (h : Reads w B 1 A n xs) (hk : k < n) : ∃ b o u, A = some ⟨b, o, none⟩ ∧ b < B ∧ xs[k]? = some u ∧ w.cell? ⟨b, o + k, none⟩ = some u := by
  obtain ⟨b, o, e, hb, hc⟩ := h.2 (by omega)
  have hl : k < xs.length := by have := h.1; omega
  exact ⟨b, o, xs[k], e, hb, List.getElem?_eq_getElem hl, hc k _ (List.getElem?_eq_getElem hl)⟩
theorem Reads.keep (h : Reads w B size A n xs) (hk : ∀ p : Addr, p.block < B → w'.cell? p = w.cell? p) : Reads w' B size A n xs :=
  ⟨h.1, fun hn => by
    obtain ⟨b, o, e, hb, hc⟩ := h.2 hn
    exact ⟨b, o, e, hb, fun j u hu => (hk _ hb).trans (hc j u hu)⟩⟩
theorem Reads.more (h : Reads w B size A n xs) (hB : B ≤ B') : Reads w B' size A n xs :=
  ⟨h.1, fun hn => by
    obtain ⟨b, o, e, hb, hc⟩ := h.2 hn
    exact ⟨b, o, e, by omega, hc⟩⟩
theorem Reads.below (h : Reads w B size A n xs) (hb : Below B w w') : Reads w' B size A n xs := h.keep fun _ hp => hb.cell hp
theorem Reads.after {wr : World} (h : Reads wr B size A n xs) (hB : B ≤ wr.heap.size) (x : After wr) : Reads x.at_ x.at_.heap.size size A n xs := ((h.more hB).below x.below).more x.below.size
theorem Reads.alloc (h : Reads w B size A n xs) (hB : B ≤ w.heap.size) (o : Obj) : Reads (w.alloc o) B size A n xs := h.keep fun p hp => World.cell?_alloc_lt w o p (by omega)
theorem Reads.ints {zs : List Int} {k : IntKind} (h : Reads w B 1 A n (zs.map (Value.int k))) : zs.length = n := by have := h.1; simpa using this
end
/-- Block g is just these cells. -/
def Blk (w : World) (g : Nat) (t : TypeId) (cs : Array Value) : Prop := w.heap[g]? = some (.cells cs t (0, 0))
section
variable {w w' : World} {g : Nat} {t : TypeId} {cs : Array Value}
theorem Blk.lt (h : Blk w g t cs) : g < w.heap.size := by
  rcases Nat.lt_or_ge g w.heap.size with hlt | hge
  · exact hlt
  · unfold Blk at h; rw [Array.getElem?_eq_none hge] at h; cases h
theorem Blk.cell (h : Blk w g t cs) (i : Nat) : w.cell? ⟨g, i, none⟩ = cs[i]? := cell_of_row w g i cs t (0, 0) h
theorem Blk.frozen (h : Blk w g t cs) (i : Nat) : w.frozen? ⟨g, i, none⟩ = false := by
  unfold Blk at h
  simp [World.frozen?, h]
theorem Blk.new (w : World) (t : TypeId) (cs : Array Value) : Blk (w.alloc (.cells cs t)) w.heap.size t cs := heap_alloc_new w _
theorem Blk.fresh {w : World} {g : Nat} {t : TypeId} {cs : Array Value} (h : w.heap.size = g) : Blk (w.alloc (.cells cs t)) g t cs := h ▸ Blk.new w t cs
theorem Blk.alloc (h : Blk w g t cs) (o : Obj) : Blk (w.alloc o) g t cs := (Below.heap_alloc w o g h.lt).trans h
theorem Blk.set_ (h : Blk w g t cs) (i : Nat) (u : Value) : Blk (w.setCell ⟨g, i, none⟩ u) g t (cs.setIfInBounds i u) := by
  unfold Blk at h ⊢
  simp [World.setCell, Array.getElem?_modify, h]
theorem Blk.as {cs' : Array Value} (h : Blk w g t cs) (e : cs = cs') : Blk w g t cs' := e ▸ h
theorem Blk.far (h : Blk w g t cs) {p : Addr} (hp : g ≠ p.block) (u : Value) : Blk (w.setCell p u) g t cs := (Below.heap_setCell w p u g hp).trans h
theorem Blk.below {B : Nat} (h : Blk w g t cs) (hb : Below B w w') (hg : g < B) : Blk w' g t cs := (hb.block g hg).trans h
end
theorem Reads.lit {w : World} {t : TypeId} {xs : List Value} {B n size : Nat} (hl : xs.length = n * size) (hB : w.heap.size < B) : Reads (w.alloc (.cells xs.toArray t)) B size (some ⟨w.heap.size, 0, none⟩) n xs :=
  ⟨hl, fun _ => ⟨_, _, rfl, hB, fun j u h => by rw [Nat.zero_add, (Blk.new w t xs.toArray).cell]; simpa using h⟩⟩
/-- The world at a piece of code, known by what is said of it alone. -/
theorem rebase {P : Program} {c : Code} {Q : Exit → Act → World → Prop} {a : Act} {W : World} (F : World → Prop) (hF : F W) (k : ∀ w', F w' → Code.wp P c Q a w') : Code.wp P c Q a W := k W hF
theorem rebase_calls {P : Program} {f : FuncId} {args : Array Value} {R : Ending → World → Prop} {W : World} (F : World → Prop) (hF : F W) (k : ∀ w', F w' → Calls P f args w' R) : Calls P f args W R := k W hF
theorem take_snoc {α : Type} (l : List α) (k : Nat) (h : k < l.length) : l.take (k + 1) = l.take k ++ [l[k]] := List.take_succ_eq_append_getElem h
end Go.Proofs.YtbjealobiblabaaGreatDoor

namespace Go.Proofs.YtbjealobiblabaaGreatDoor
open Go Go.ChangeShapes Go.WideShapes Go.ChangeAt Go.RowKit Go.Deep

theorem Tryz.own : ownKnob Tryz.prog.godebug = none := by kernel_rfl
theorem Tryz.laidOut : laidOutB Tryz.prog = true := by kernel_rfl

section
variable {H : Type} {enc : TypeId × Value → H} {P : Program}
theorem post_of_below {f : Func} {s : ChangeSpec} {apart fresh handsOn again : Bool} {W W' : World} {args : Array Value} {v : Value} {ds gs : List (DataW H)} {before pa pv : List MemPlace}
    (hW : DataW.Whole enc P f.params.toList s.vars apart W args.toList ds gs before)
    (hres : ∀ (b : Nat) (sp : Nat → Bool) (hd : Bool), DataW.TrodAll enc P W' b sp hd f.resultTypes.toList (v.resultList f.resultTypes.size) (s.fn H (ds ++ gs)).results [])
    (hargs : ∀ sp : Nat → Bool, (∀ p ∈ before, sp p.block = true) → DataW.TrodAll enc P W' 0 sp true f.params.toList args.toList (s.fn H (ds ++ gs)).args pa)
    (hvars : ∀ sp : Nat → Bool, (∀ p ∈ before, sp p.block = true) → DataW.TrodVars enc P W' sp s.vars (s.fn H (ds ++ gs)).vars pv)
    (hps : before = pa ++ pv) (hb : Below W.heap.size W W')
    (hok : ∀ (j : Nat) (t : TypeId) (r : Value), f.resultTypes[j]? = some t → (v.resultList f.resultTypes.size)[j]? = some r → Value.okWide P W' .any 0 t r) :
    s.post enc P f apart fresh handsOn again W args v W' := by
  have hlt : ∀ p ∈ before, p.block < W.heap.size := fun p hp => hW.lt p hp
  have hold : ∀ p ∈ before, (fun b => decide (b < W.heap.size)) p.block = true := fun p hp => by simpa using hlt p hp
  refine ⟨ds, gs, before, [], pa, pv, hW, hres _ _ _, hargs _ hold, hvars _ hold, World.keptBut_mono (fun p hp => ⟨hp, ?_⟩) (hb.frame (· ∈ before)), fun _ => ?_⟩
  · rw [hps, List.mem_append] at hp
    exact Or.inr hp
  · obtain ⟨_, _, _, _, _, hz, hn⟩ := hW
    refine ⟨hok, _, _, ([] ++ pa) ++ pv, ⟨[] ++ pa, pv, trodAll_append (hargs _ (fun _ _ => rfl)) (hres _ _ _), hvars _ (fun _ _ => rfl), rfl, ?_, ?_⟩, ?_⟩
    · intro b off hp
      have hin : MemPlace.cell b off ∈ before := by rw [hps]; simpa using hp
      rw [hb.frozen (hlt _ hin)]
      exact hz b off hin
    · intro ha
      have := hn ha
      rw [hps] at this
      simpa using this
    · intro p hp _
      rw [hps]
      simpa using hp

/-- All arguments read as they did. -/
theorem trodAll_stays (hl : laidOutB P = true) {W W' : World} {sp : Nat → Bool} (hb : Below W.heap.size W W') :
    ∀ (ts : List TypeId) (vs : List Value) (ds : List (DataW H)) (ps : List MemPlace), (ts.all fun t => P.readableRec t && decide (t < P.types.size)) = true →
      DataW.TrodAll enc P W 0 (fun _ => true) true ts vs ds ps → (∀ p ∈ ps, p.block < W.heap.size) → (∀ p ∈ ps, sp p.block = true) → DataW.TrodAll enc P W' 0 sp true ts vs ds ps
  | [], [], [], _, _, h, _, _ => h
  | t :: ts, v :: vs, d :: ds, _, hr, ⟨p, q, h1, h2, e⟩, hlt, hs => by
    subst e
    simp only [List.all_cons, Bool.and_eq_true, decide_eq_true_eq] at hr
    exact ⟨p, q, WideElems.Trod_stays hl hr.1.1 hr.1.2 h1 (fun x hx => hb.same (hlt x (by simp [hx]))) (fun x hx => hs x (by simp [hx])),
      trodAll_stays hl hb ts vs ds q hr.2 h2 (fun x hx => hlt x (by simp [hx])) (fun x hx => hs x (by simp [hx])), rfl⟩

/-- A law that gives true: all that the row asks behind the call. -/
theorem law_post {f : Func} {s : ChangeSpec} {apart fresh handsOn again : Bool} {W W' : World} {args : Array Value} {ds gs : List (DataW H)} {before : List MemPlace} {T : TypeId}
    (hl : laidOutB P = true) (hr : (f.params.toList.all fun t => P.readableRec t && decide (t < P.types.size)) = true) (hres : f.resultTypes = #[T]) (hT : P.underlying T = some .bool) (hvs : s.vars = [])
    (hW : DataW.Whole enc P f.params.toList s.vars apart W args.toList ds gs before)
    (hfn : (s.fn H ds).results = [.lit (.bool true)] ∧ (s.fn H ds).args = ds ∧ (s.fn H ds).vars = [])
    (hb : Below W.heap.size W W') : s.post enc P f apart fresh handsOn again W args (.bool true) W' := by
  have hW0 := hW
  obtain ⟨p, q, hA, hV, e, _, _⟩ := hW0
  rw [hvs] at hV
  obtain ⟨rfl, rfl⟩ := trodVars_none hV
  have e' : before = p := by simpa using e
  subst e'
  have hds : s.fn H (ds ++ []) = s.fn H ds := by rw [List.append_nil]
  refine post_of_below (pa := before) (pv := []) hW (fun b sp hd => ?_) (fun sp hs => ?_) (fun sp hs => ?_) (by simp) hb ?_
  · rw [hds, hfn.1, hres]
    exact trodAll_mk1 (shut_bool hT true)
  · rw [hds, hfn.2.1]
    exact trodAll_stays hl hb _ _ _ _ hr hA (fun x hx => hW.lt x hx) hs
  · rw [hds, hfn.2.2, hvs]
    rfl
  · exact ok_one hres rfl (okWide_bool_mk hT true)
end

section
variable {H : Type} {enc : TypeId × Value → H} {P : Program} {w : World} {base : Nat} {spare : Nat → Bool} {held : Bool}
theorem cell_lt {w : World} {a : Addr} {v : Value} (h : w.cell? a = some v) : a.block < w.heap.size := by
  rcases Nat.lt_or_ge a.block w.heap.size with hlt | hge
  · exact hlt
  · simp [World.cell?, Array.getElem?_eq_none hge] at h
/-- A slice of numbers came in. -/
theorem open_reads {r : Reach} {b0 : Nat} {t e : TypeId} {k : IntKind} {v : Value} {d : DataW H} {ps : List MemPlace} (ht : P.underlying t = some (.slice e)) (he : P.underlying e = some (.int k)) (hc : P.cellsOf e = 1)
    (hval : Value.okWide P w r b0 t v) (h : DataW.Trod enc P w base (fun _ => true) held t v d ps) :
    ∃ (A : Option Addr) (n c : Nat) (zs : List Int), v = .slice A n c ∧ n ≤ c ∧ c ≤ maxLen ∧ Reads w w.heap.size 1 A n (zs.map (Value.int k)) ∧ ∀ z ∈ zs, (Lit.int k z).wf = true := by
  obtain ⟨fuel, hf⟩ := h
  obtain ⟨A, n, c, rfl⟩ := okWide_slice ht hval
  rcases open_ints ht he hc hf with ⟨hcs, hx⟩ | ⟨a, len, cap, zs, hcs, _, hl, hm, hz, hx, hcell, hwz⟩
  · simp [Value.cells] at hcs
    obtain ⟨rfl, rfl, rfl⟩ := hcs
    exact ⟨none, 0, 0, [], rfl, Nat.le_refl _, by simp [maxLen], Reads.none_, by simp⟩
  · simp [Value.cells] at hcs
    obtain ⟨rfl, rfl, rfl⟩ := hcs
    simp only [if_true] at hz
    refine ⟨some a, n, c, zs.take n, rfl, hl, hm, ⟨by simp; omega, fun hn => ?_⟩, fun z h => hwz z (List.mem_of_mem_take h)⟩
    have h0 := hcell 0 (by omega)
    have hs : a.spot = none := by simpa [Addr.add] using World.cell?_spot h0
    obtain ⟨b, o, sp⟩ := a
    simp only at hs
    subst hs
    refine ⟨b, o, rfl, by simpa [Addr.add] using cell_lt h0, fun j u hu => ?_⟩
    rw [List.getElem?_map] at hu
    rcases Nat.lt_or_ge j n with hj | hj
    · have hjz : j < zs.length := by omega
      rw [List.getElem?_take, if_pos hj, List.getElem?_eq_getElem hjz] at hu
      have h1 := hcell j hjz
      have e1 : (⟨b, o, none⟩ : Addr).add j = ⟨b, o + j, none⟩ := by unfold Addr.add; split <;> simp_all
      rw [e1] at h1
      rw [h1, ← hu]
      simp [hjz]
    · rw [List.getElem?_eq_none (by simp; omega)] at hu
      cases hu
/-- A struct of one-cell fields came in, by value. -/
theorem open_struct {r : Reach} {b0 : Nat} {t : TypeId} {fs : Array Field} {v : Value} {d : DataW H} {p : List MemPlace} (hs : P.underlying t = some (.struct fs)) (hone : oneCellFields P fs = true) (hC : P.cellsOf t = fs.size)
    (hv : Value.okWide P w r b0 t v) (h : DataW.Trod enc P w base spare held t v d p) :
    ∃ l : List Value, v = .agg l.toArray ∧ l.length = fs.size ∧ ∀ (j : Nat) (f : Field) (u : Value), fs[j]? = some f → l[j]? = some u → ∃ n y, DataW.trod enc P w base spare held n f.type [u] = some y := by
  obtain ⟨cs, rfl, hsz⟩ := okWide_struct hs hv
  obtain ⟨l⟩ := cs
  have hl : l.length = fs.size := by rw [← hC, ← hsz]; rfl
  refine ⟨l, rfl, hl, fun j f u hj hu => ?_⟩
  obtain ⟨fuel, hf⟩ := h
  obtain ⟨xs, n, _, _, _, hlen, hg⟩ := DataW.trod_struct hs hf
  obtain ⟨o, k⟩ := hone_of hone j f hj
  have h1 := hg j f hj
  have hjl : j < fs.size := (Array.getElem?_eq_some_iff.1 hj).1
  have hone' : (l.drop j).take 1 = [u] := by
    have hjl' : j < l.length := by omega
    rw [List.drop_eq_getElem_cons hjl']
    rw [List.getElem?_eq_getElem hjl'] at hu
    simp at hu
    simp [hu]
  have hx : xs[j]? = some (xs[j]'(by omega)) := List.getElem?_eq_getElem (by omega)
  have e2 : (Value.agg l.toArray).cells.toList = l := by simp [Value.cells]
  rw [o, k, e2, hone'] at h1
  exact ⟨n, _, h1.trans hx⟩
theorem list2 {α : Type} {l : List α} (h : l.length = 2) : ∃ a b, l = [a, b] := by
  match l, h with
  | [a, b], _ => exact ⟨a, b, rfl⟩
theorem list3 {α : Type} {l : List α} (h : l.length = 3) : ∃ a b c, l = [a, b, c] := by
  match l, h with
  | [a, b, c], _ => exact ⟨a, b, c, rfl⟩
theorem list4 {α : Type} {l : List α} (h : l.length = 4) : ∃ a b c d, l = [a, b, c, d] := by
  match l, h with
  | [a, b, c, d], _ => exact ⟨a, b, c, d, rfl⟩
theorem list5 {α : Type} {l : List α} (h : l.length = 5) : ∃ a b c d e, l = [a, b, c, d, e] := by
  match l, h with
  | [a, b, c, d, e], _ => exact ⟨a, b, c, d, e, rfl⟩
/-- A field that is a number. -/
theorem field_int {t : TypeId} {k : IntKind} {v : Value} (ht : P.underlying t = some (.int k)) (h : ∃ n y, DataW.trod enc P w base spare held n t [v] = some y) : ∃ z, v = .int k z ∧ (Lit.int k z).wf = true := by
  obtain ⟨n, y, h⟩ := h
  obtain ⟨z, h1, _, hw⟩ := DataW.trod_int ht h
  simp at h1
  exact ⟨z, h1, hw⟩
theorem field_bool {t : TypeId} {v : Value} (ht : P.underlying t = some .bool) (h : ∃ n y, DataW.trod enc P w base spare held n t [v] = some y) : ∃ z, v = .bool z := by
  obtain ⟨n, y, h⟩ := h
  obtain ⟨z, h1, _⟩ := DataW.trod_bool ht h
  simp at h1
  exact ⟨z, h1⟩
theorem wf_i64 {z : Int} (h : (Lit.int .i64 z).wf = true) : -9223372036854775808 ≤ z ∧ z ≤ 9223372036854775807 := by
  simp only [Lit.wf, Bool.and_eq_true, decide_eq_true_eq] at h
  have e1 : IntKind.min .i64 = -9223372036854775808 := by decide
  have e2 : IntKind.max .i64 = 9223372036854775807 := by decide
  rw [e1, e2] at h
  exact h
/-- A slice of structs of one-cell fields came in. -/
theorem open_structs {r : Reach} {b0 : Nat} {t e : TypeId} {fs : Array Field} {v : Value} {d : DataW H} {ps : List MemPlace} (ht : P.underlying t = some (.slice e)) (he : P.underlying e = some (.struct fs))
    (hone : oneCellFields P fs = true) (hC : P.cellsOf e = fs.size) (hpos : 0 < fs.size) (hval : Value.okWide P w r b0 t v) (h : DataW.Trod enc P w base (fun _ => true) held t v d ps) :
    ∃ (A : Option Addr) (n c : Nat), v = .slice A n c ∧ n ≤ c ∧ c ≤ maxLen ∧ (0 < n → ∃ b o, A = some ⟨b, o, none⟩ ∧ b < w.heap.size ∧
      ∀ i, i < n → ∀ (j : Nat) (f : Field), fs[j]? = some f → ∃ u, w.cell? ⟨b, o + (i * fs.size + j), none⟩ = some u ∧ ∃ m y, DataW.trod enc P w base (fun _ => true) held m f.type [u] = some y) := by
  obtain ⟨fuel, hf⟩ := h
  obtain ⟨A, n, c, rfl⟩ := okWide_slice ht hval
  rcases open_slice ht hf with ⟨hcs, hx⟩ | ⟨a, len, cap, m, k, D, Pl, hcs, _, hl, hm, hmm, hx, hi⟩
  · simp [Value.cells] at hcs
    obtain ⟨rfl, rfl, rfl⟩ := hcs
    exact ⟨none, 0, 0, rfl, Nat.le_refl _, by simp [maxLen], fun h => absurd h (by omega)⟩
  · simp [Value.cells] at hcs
    obtain ⟨rfl, rfl, rfl⟩ := hcs
    simp only [if_true] at hmm
    refine ⟨some a, n, c, rfl, hl, hm, fun hn => ?_⟩
    have each : ∀ i, i < n → ∀ (j : Nat) (f : Field), fs[j]? = some f → ∃ u, w.cell? (a.add (i * fs.size + j)) = some u ∧ ∃ m y, DataW.trod enc P w base (fun _ => true) held m f.type [u] = some y := fun i hin j f hj => by
      obtain ⟨cs', hc, ht'⟩ := hi i (by omega)
      rw [hC] at hc
      obtain ⟨ys, n', hn', hy, hlen, hyl, hff⟩ := DataW.trod_struct he ht'
      obtain ⟨_, hcl, hat⟩ := World.cells?_some hc
      obtain ⟨ho, hk⟩ := hone_of hone j f hj
      have hjl : j < fs.size := (Array.getElem?_eq_some_iff.1 hj).1
      have hcell := hat j hjl
      have hv : cs'[j]? = some (cs'[j]'(by omega)) := List.getElem?_eq_getElem (by omega)
      have h1 := hff j f hj
      rw [ho, hk] at h1
      have hone' : (cs'.drop j).take 1 = [cs'[j]'(by omega)] := by
        rw [List.drop_eq_getElem_cons (by omega)]
        rfl
      rw [hone'] at h1
      have hys : ys[j]? = some (ys[j]'(by omega)) := List.getElem?_eq_getElem (by omega)
      refine ⟨_, ?_, _, _, h1.trans hys⟩
      rw [← Go.Deep.add_add, hcell, hv]
    obtain ⟨f0, hf0⟩ : ∃ f, fs[0]? = some f := ⟨fs[0], Array.getElem?_eq_getElem hpos⟩
    obtain ⟨u0, h0, _⟩ := each 0 hn 0 f0 hf0
    have hs : a.spot = none := by simpa [Addr.add] using World.cell?_spot h0
    obtain ⟨b, o, sp⟩ := a
    simp only at hs
    subst hs
    refine ⟨b, o, rfl, by simpa [Addr.add] using cell_lt h0, fun i hin j f hj => ?_⟩
    obtain ⟨u, h1, h2⟩ := each i hin j f hj
    have e1 : (⟨b, o, none⟩ : Addr).add (i * fs.size + j) = ⟨b, o + (i * fs.size + j), none⟩ := by unfold Addr.add; split <;> simp_all
    rw [e1] at h1
    exact ⟨u, h1, h2⟩
theorem okWide_array {r : Reach} {b0 : Nat} {t : TypeId} {n : Nat} {e : TypeId} {v : Value} (ht : P.underlying t = some (.array n e)) (h : Value.okWide P w r b0 t v) : ∃ cs, v = .agg cs ∧ cs.size = P.cellsOf t := by
  simp only [Value.okWide, ht] at h
  obtain ⟨cs, h1, h2, _⟩ := h
  exact ⟨cs, h1, h2⟩
/-- An array of one-cell elements came in, by value. -/
theorem open_array {r : Reach} {b0 : Nat} {t e : TypeId} {n : Nat} {v : Value} {d : DataW H} {p : List MemPlace} (hs : P.underlying t = some (.array n e)) (hC : P.cellsOf t = n) (hE : P.cellsOf e = 1)
    (hv : Value.okWide P w r b0 t v) (h : DataW.Trod enc P w base spare held t v d p) :
    ∃ l : List Value, v = .agg l.toArray ∧ l.length = n ∧ ∀ (j : Nat) (u : Value), l[j]? = some u → ∃ m y, DataW.trod enc P w base spare held m e [u] = some y := by
  obtain ⟨cs, rfl, hsz⟩ := okWide_array hs hv
  obtain ⟨l⟩ := cs
  have hl : l.length = n := by rw [← hC, ← hsz]; rfl
  refine ⟨l, rfl, hl, fun j u hu => ?_⟩
  obtain ⟨fuel, hf⟩ := h
  obtain ⟨xs, m, _, _, _, hlen, hg⟩ := DataW.trod_array hs hf
  have hjl : j < l.length := (List.getElem?_eq_some_iff.1 hu).1
  have h1 := hg j (by omega)
  have hone' : (l.drop j).take 1 = [u] := by
    rw [List.drop_eq_getElem_cons hjl]
    rw [List.getElem?_eq_getElem hjl] at hu
    simp at hu
    simp [hu]
  have hx : xs[j]? = some (xs[j]'(by omega)) := List.getElem?_eq_getElem (by omega)
  have e2 : (Value.agg l.toArray).cells.toList = l := by simp [Value.cells]
  rw [hE, e2, Nat.mul_one, hone'] at h1
  exact ⟨m, _, h1.trans hx⟩
theorem wf_u32 {z : Int} (h : (Lit.int .u32 z).wf = true) : 0 ≤ z ∧ z ≤ 4294967295 := by
  simp only [Lit.wf, Bool.and_eq_true, decide_eq_true_eq] at h
  have e1 : IntKind.min .u32 = 0 := by decide
  have e2 : IntKind.max .u32 = 4294967295 := by decide
  rw [e1, e2] at h
  exact h
theorem wf_u64 {z : Int} (h : (Lit.int .u64 z).wf = true) : 0 ≤ z ∧ z ≤ 18446744073709551615 := by
  simp only [Lit.wf, Bool.and_eq_true, decide_eq_true_eq] at h
  have e1 : IntKind.min .u64 = 0 := by decide
  have e2 : IntKind.max .u64 = 18446744073709551615 := by decide
  rw [e1, e2] at h
  exact h
end
end Go.Proofs.YtbjealobiblabaaGreatDoor

namespace Go.Proofs.YtbjealobiblabaaGreatDoor
open Go Go.RowKit
theorem lists_of {α : Type} (d : α) {p : Nat → α → Prop} : ∀ (n : Nat), (∀ i, i < n → ∃ x, p i x) → ∃ xs : List α, xs.length = n ∧ ∀ i, i < n → p i (xs.getD i d)
  | 0, _ => ⟨[], rfl, fun i hi => by omega⟩
  | n + 1, h => by
    obtain ⟨xs, hl, hx⟩ := lists_of d n fun i hi => h i (by omega)
    obtain ⟨x, hp⟩ := h n (by omega)
    refine ⟨xs ++ [x], by simp [hl], fun i hi => ?_⟩
    by_cases e : i = n
    · subst e
      have : (xs ++ [x]).getD i d = x := by rw [← hl]; simp
      rw [this]; exact hp
    · have hlt : i < n := by omega
      have : (xs ++ [x]).getD i d = xs.getD i d := by simp [List.getD_eq_getElem?_getD, List.getElem?_append_left (show i < xs.length by omega)]
      rw [this]; exact hx i hlt
/-- What is there of a block that is handed in. -/
structure InB (w : World) (A : Option Addr) (n : Nat) (b : Cont) (i : LI) : Prop where
  at_ : 0 < n → A = some ⟨i.b, i.o, none⟩
  lt : i.b < w.heap.size ∨ (⟨false, false, b⟩ : ABlk).void
  rel : ∀ (ρ : Rho) (nx : Nat), b.rel ρ nx (fun j => w.cell? ⟨i.b, i.o + j, none⟩)
  plain : b.plain = true
theorem InB.ok {w : World} {A : Option Addr} {n : Nat} {b : Cont} {i : LI} (h : InB w A n b i) (ρ : Rho) (nx : Nat) : (⟨false, false, b⟩ : ABlk).ok ρ nx i w :=
  ⟨h.lt, h.rel ρ nx, (fun h => by cases h), (fun h => by cases h), fun q hq => absurd hq (Cont.plain_ne h.plain q)⟩
theorem InB.arg {w : World} {A : Option Addr} {n c l nx : Nat} {b : Cont} {ρ : Rho} (h : InB w A n b (ρ l)) (hl : l < nx) (hnc : n ≤ c) (wd s : Nat) : AV.rel ρ nx (.sl false l wd 0 s n (some c)) (.slice A n c) := by
  simp only [AV.rel]
  refine ⟨hl, A, c, rfl, hnc, fun hn => ?_, (fun h => by cases h), rfl⟩
  rw [h.at_ hn]; simp
/-- Numbers in a slice. -/
theorem in_ints {w : World} {A : Option Addr} {n : Nat} {k : IntKind} {zs : List Int} (h : Reads w w.heap.size 1 A n (zs.map (Value.int k))) : ∃ i, InB w A n (.col (.ints k zs)) i := by
  have hl := h.ints
  by_cases hn : 0 < n
  · obtain ⟨b, o, e, hb, hc⟩ := h.2 hn
    refine ⟨⟨b, o, 0, 0⟩, ⟨fun _ => e, .inl hb, fun ρ nx r c a ha => ?_, rfl⟩⟩
    cases c <;> simp only [Cont.at] at ha <;> try cases ha
    simp only [Col.at, Option.some.injEq, Prod.mk.injEq, decide_eq_true_eq] at ha
    obtain ⟨rfl, hlt⟩ := ha
    exact ⟨by simp [Cont.width], .int k (zs.getD r 0), by simpa [Cont.width] using hc r (.int k (zs.getD r 0)) (by simp [hlt]), by simp [AV.rel]⟩
  · have hz : zs = [] := List.eq_nil_of_length_eq_zero (by omega)
    subst hz
    refine ⟨⟨0, 0, 0, 0⟩, ⟨fun h => absurd h hn, .inr ⟨rfl, rfl, (fun q h => by cases h), fun r c a ha => ?_⟩, fun ρ nx r c a ha => ?_, rfl⟩⟩
    all_goals (cases c <;> simp only [Cont.at, Col.at] at ha <;> simp at ha)
/-- Structs in a slice: column by column. -/
theorem in_rows {w : World} {A : Option Addr} {n : Nat} {cs : List Col} (hv : n = 0 → ∀ (c : Nat) (cl : Col) (r : Nat), cs[c]? = some cl → (cl.at r).2 = false)
    (h : 0 < n → ∃ b o, A = some ⟨b, o, none⟩ ∧ b < w.heap.size ∧ ∀ (c : Nat) (cl : Col) (r : Nat) (v : Value), cs[c]? = some cl → cl.at r = (.val v, true) → w.cell? ⟨b, o + (r * cs.length + c), none⟩ = some v) : ∃ i, InB w A n (.rows cs) i := by
  have hcol : ∀ (cl : Col) r, ∃ v, (cl.at r).1 = .val v := fun cl r => by cases cl <;> exact ⟨_, rfl⟩
  by_cases hn : 0 < n
  · obtain ⟨b, o, e, hb, hc⟩ := h hn
    refine ⟨⟨b, o, 0, 0⟩, ⟨fun _ => e, .inl hb, fun ρ nx r c a ha => ?_, rfl⟩⟩
    simp only [Cont.at] at ha
    split at ha
    · rename_i cl hcl
      simp only [Option.some.injEq] at ha
      obtain ⟨v, hv⟩ := hcol cl r
      rw [ha] at hv
      simp only at hv
      subst hv
      exact ⟨(List.getElem?_eq_some_iff.1 hcl).1, v, hc c cl r v hcl ha, by simp [AV.rel]⟩
    · cases ha
  · have h0 : n = 0 := by omega
    refine ⟨⟨0, 0, 0, 0⟩, ⟨fun h => absurd h hn, .inr ⟨rfl, rfl, (fun q h => by cases h), fun r c a ha => ?_⟩, fun ρ nx r c a ha => ?_, rfl⟩⟩
    all_goals
      simp only [Cont.at] at ha
      split at ha
      · rename_i cl hcl
        simp only [Option.some.injEq] at ha
        have := hv h0 c cl r hcl
        rw [ha] at this
        cases this
      · cases ha
theorem gives_true {g : FuncId} {m m' : MS} {args : List AV} {w : World} {xs : List Value} {ρ : Rho} {fn : Func} {c : Code} (hf : Tryz.prog.funcs[g]? = some fn) (hb : fn.body = some c) (h : Gives_ Tryz.prog fn m.nx (enterA fn c args m) (.val (.bool true)) m') (hro : allRo m.bl = true)
    (hm : MRel ρ m w) (hx : AV.rels ρ m.nx args xs) : Gives g xs.toArray w (.bool true) := law_true hf hb h hro hm hx
end Go.Proofs.YtbjealobiblabaaGreatDoor

namespace Go.Proofs.YtbjealobiblabaaGreatDoor
open Go Go.RowKit
theorem plain_gives {l : List (FuncId × Spec)} {g : FuncId} {fn : Func} {c : Code} {args : List AV} {xs : List Value} {m' : MS} {w : World} {cuts : List Cut} {ns : List Nat} {top : Nat} (hE : ESound Tryz.prog (envOf l)) (hm : MixedOk Tryz.prog) (hf : Tryz.prog.funcs[g]? = some fn) (hb : fn.body = some c)
    (h : F_ Tryz.prog l fn cuts ns top args noMem = some (.ret (vb true) m' true)) (hx : AV.rels (fun _ => ⟨0, 0, 0, 0⟩) 0 args xs) (hC : cutsB 0 cuts = true := by rfl) : Gives g xs.toArray w (.bool true) :=
  gives_true (m := noMem) hf hb (F_ret hE hm hC hb h) rfl mrel_none hx
end Go.Proofs.YtbjealobiblabaaGreatDoor

namespace Go.Proofs.YtbjealobiblabaaGreatDoor
open Go Go.RowKit
theorem lift_p {P : Program} {f : FuncId} {m m1' : MS} {args : List AV} {v : AV} {l wd r c : Nat} {b : ABlk} {ar br : List AV} (hl : look m.bl l = some b) (hg : b.cont.ground = true)
    (h : FSound P f ⟨[(0, some ⟨false, false, b.cont⟩)], 1⟩ (ar ++ .ptr 0 wd r c :: br) v m1') (hx : args = ar ++ .ptr l wd r c :: br) (ha : AV.grounds ar = true) (hb : AV.grounds br = true) (hv : v.ground = true) : FSound P f m args v m := by
  refine lift_pure h rfl hv fun ρ w xs hm hr => ?_
  subst hx
  refine ⟨fun _ => ρ l, hm.views (fun _ => l) (fun k b1 hk => ?_), ?_⟩
  · obtain ⟨rfl, rfl⟩ := look_one hk
    exact ⟨by show (0 : Nat) < 1; omega, rfl, rfl, hg, b, hl, rfl⟩
  · obtain ⟨ys, zs, rfl, h1, h2⟩ := hr.split
    simp only [AV.rels] at h2
    obtain ⟨y, zs', rfl, h2, h3⟩ := h2
    refine AV.rels.append (AV.grounds_rels _ _ ha h1) ?_
    simp only [AV.rels]
    refine ⟨y, zs', rfl, ?_, AV.grounds_rels _ _ hb h3⟩
    simp only [AV.rel] at h2 ⊢
    exact ⟨by show (0 : Nat) < 1; omega, h2.2⟩
theorem mixedP : MixedOk Tryz.prog := by unfold MixedOk; kernel_rfl
abbrev roI (zs : List Int) : Nat × Option ABlk := (0, some ⟨false, false, .col (.ints .i64 zs)⟩)
abbrev wrI (zs : List Int) : Nat × Option ABlk := (0, some ⟨true, false, .col (.ints .i64 zs)⟩)
/-- Row i of a column of cells. -/
def jx (i : Int) : Nat := addN 0 (mulN i.toNat 1) + 0
theorem jx_nat (i : Nat) : jx (i : Int) = i := by unfold jx; rw [addN_eq, mulN_eq, Int.toNat_natCast]; omega
theorem wr64 (x : Int) (h : -9223372036854775808 ≤ x) (h' : x ≤ 9223372036854775807) : IntKind.i64.wrap x = x := IntWalk.i64_in x ⟨h, h'⟩
abbrev up1 (n : Int) : Int := IntKind.i64.wrap (n + 1)
theorem up1_nat {i : Nat} (h : i ≤ 4294967296) : up1 (i : Int) = ((i + 1 : Nat) : Int) := by unfold up1; rw [wr64 _ (by omega) (by omega)]; omega
theorem cj_app : ∀ (a b : List Bool), conj a = true → conj b = true → conj (a ++ b) = true
  | [], b, _, h => h
  | x :: a, b, h, h' => by
    cases x
    · cases h
    · exact cj_app a b h h'
theorem cj_all {l : List Bool} (h : ∀ b ∈ l, b = true) : conj l = true := by
  induction l with
  | nil => rfl
  | cons b l ih =>
    rw [h b (by simp)]
    exact ih fun x hx => h x (by simp [hx])
theorem roB_get {bl : List (Nat × Option ABlk)} {l : Nat} {b : ABlk} (h : look bl l = some b) : look (roB bl) l = some ⟨false, false, b.cont⟩ := by
  induction bl with
  | nil => cases h
  | cons p r ih =>
    obtain ⟨k, o⟩ := p
    rw [look_cons] at h
    cases o with
    | none =>
      simp only [roB, look_cons]
      split at h
      · cases h
      · rename_i e; rw [if_neg e]; exact ih h
    | some x =>
      simp only [roB, look_cons]
      split at h
      · rename_i e; cases h; rw [if_pos e]
      · rename_i e; rw [if_neg e]; exact ih h
end Go.Proofs.YtbjealobiblabaaGreatDoor

namespace Go.Proofs.YtbjealobiblabaaGreatDoor
open Go Go.RowKit
set_option maxRecDepth 100000
def cmpI (x y : Int) : Int := bif decide (x < y) then -1 else bif decide (y < x) then 1 else 0
def orI (x y : Int) : Int := bif x == 0 then y else x
def e_cmp : Spec := fun _ args => match args with
  | [.val (.int .i64 x), .val (.int .i64 y)] => some (vi (cmpI x y), none, [])
  | _ => none
def e_or : Spec := fun m args => match args with
  | [.sl _ l 1 0 1 2 _] => match look m.bl l with
    | some ⟨_, _, .cells [.val (.int .i64 x), .val (.int .i64 y)]⟩ => some (vi (orI x y), none, [])
    | _ => none
  | [.sl _ l 1 0 1 3 _] => match look m.bl l with
    | some ⟨_, _, .cells [.val (.int .i64 x), .val (.int .i64 y), .val (.int .i64 z)]⟩ => some (vi (orI x (orI y z)), none, [])
    | _ => none
  | _ => none
abbrev L_nan (P : Program) (f : Func) : List (FuncId × Spec) := [(69, inlP P [] f)]
theorem hE_nan : ESound Tryz.prog (envOf (L_nan Tryz.prog Tryz.f69)) := env_cons (inlP_ok env_nil mixedP (fun xs w => Tryz.call69 xs w) Tryz.func69 rfl) env_nil
theorem cmp_run (x y : Int) : F_ Tryz.prog (L_nan Tryz.prog Tryz.f69) Tryz.f53 [] [] 99 [vi x, vi y] noMem = some (.ret (vi (cmpI x y)) ⟨[], 99⟩ true) := by
  have e : F_ Tryz.prog (L_nan Tryz.prog Tryz.f69) Tryz.f53 [] [] 99 [vi x, vi y] noMem =
      bif x != x then (bif y != y then some (.ret (vi 0) ⟨[], 99⟩ true) else some (.ret (vi (-1)) ⟨[], 99⟩ true)) else bif y != y then some (.ret (vi 1) ⟨[], 99⟩ true) else bif decide (x < y) then some (.ret (vi (-1)) ⟨[], 99⟩ true) else bif decide (y < x) then some (.ret (vi 1) ⟨[], 99⟩ true) else some (.ret (vi 0) ⟨[], 99⟩ true) := by kernel_rfl
  rw [e, bne_self_eq_false, bne_self_eq_false]
  unfold cmpI
  cases decide (x < y) <;> cases decide (y < x) <;> rfl
theorem ok_cmp : SpecOk Tryz.prog 53 e_cmp := fun m args v mo bs h hb => by
  unfold e_cmp at h
  split at h <;> cases h
  exact pure_fn (c := bodyOf Tryz.f53) hE_nan mixedP (fun xs w => Tryz.call53 xs w) Tryz.func53 rfl (cmp_run _ _) rfl rfl
theorem or2_run (x y : Int) : F_ Tryz.prog [] Tryz.f52 [] [] 99 [.sl false 0 1 0 1 2 none] ⟨[(0, some ⟨false, false, .cells [vi x, vi y]⟩)], 1⟩ = some (.ret (vi (orI x y)) ⟨[], 99⟩ true) := by
  have e : F_ Tryz.prog [] Tryz.f52 [] [] 99 [.sl false 0 1 0 1 2 none] ⟨[(0, some ⟨false, false, .cells [vi x, vi y]⟩)], 1⟩ =
    bif x != 0 then some (.ret (vi x) ⟨[], 99⟩ true) else bif y != 0 then some (.ret (vi y) ⟨[], 99⟩ true) else some (.ret (vi 0) ⟨[], 99⟩ true) := by kernel_rfl
  rw [e]
  unfold orI bne
  cases hx : x == 0 <;> cases hy : y == 0 <;> simp_all
theorem or3_run (x y z : Int) : F_ Tryz.prog [] Tryz.f52 [] [] 99 [.sl false 0 1 0 1 3 none] ⟨[(0, some ⟨false, false, .cells [vi x, vi y, vi z]⟩)], 1⟩ = some (.ret (vi (orI x (orI y z))) ⟨[], 99⟩ true) := by
  have e : F_ Tryz.prog [] Tryz.f52 [] [] 99 [.sl false 0 1 0 1 3 none] ⟨[(0, some ⟨false, false, .cells [vi x, vi y, vi z]⟩)], 1⟩ =
    bif x != 0 then some (.ret (vi x) ⟨[], 99⟩ true) else bif y != 0 then some (.ret (vi y) ⟨[], 99⟩ true) else bif z != 0 then some (.ret (vi z) ⟨[], 99⟩ true) else some (.ret (vi 0) ⟨[], 99⟩ true) := by kernel_rfl
  rw [e]
  unfold orI bne
  cases hx : x == 0 <;> cases hy : y == 0 <;> cases hz : z == 0 <;> simp_all
/-- A slice of one block that is read, whatever its room. -/
theorem lift_s {P : Program} {f : FuncId} {m m1' : MS} {v : AV} {l wd s n : Nat} {nn : Bool} {cap : Option Nat} {b : ABlk} (hl : look m.bl l = some b) (hg : b.cont.ground = true) (hpl : b.cont.plain = true)
    (h : FSound P f ⟨[(0, some ⟨false, false, b.cont⟩)], 1⟩ [.sl false 0 wd 0 s n none] v m1') (hv : v.ground = true) : FSound P f m [.sl nn l wd 0 s n cap] v m := by
  refine lift_pure h rfl hv fun ρ w xs hm hx => ?_
  simp only [AV.rels] at hx
  obtain ⟨z, zs, rfl, hz, rfl⟩ := hx
  simp only [AV.rel] at hz
  obtain ⟨hll, A, cc, rfl, hnc, hA, _, _⟩ := hz
  have hv := hm.view hl hg (fun _ => ⟨(ρ l).b, (ρ l).o, cc * (s * wd), 0⟩) 1
  refine ⟨fun _ => ⟨(ρ l).b, (ρ l).o, cc * (s * wd), 0⟩, mrel_one ⟨hv.lt, hv.rel, (fun h => by cases h), (fun h => by cases h), fun q h => absurd h (Cont.plain_ne hpl q)⟩, ?_⟩
  simp only [AV.rels]
  refine ⟨_, _, rfl, ?_, rfl⟩
  simp only [AV.rel]
  exact ⟨by omega, A, cc, rfl, hnc, hA, (fun h => by cases h), by simp⟩
theorem ok_or : SpecOk Tryz.prog 52 e_or := fun m args v mo bs h hb => by
  unfold e_or at h
  split at h
  · split at h <;> cases h
    rename_i hl
    exact lift_s hl rfl rfl (fsound (c := bodyOf Tryz.f52) (fun xs w => Tryz.call52 xs w) Tryz.func52 rfl (F_ret env_nil mixedP rfl rfl (or2_run _ _))) rfl
  · split at h <;> cases h
    rename_i hl
    exact lift_s hl rfl rfl (fsound (c := bodyOf Tryz.f52) (fun xs w => Tryz.call52 xs w) Tryz.func52 rfl (F_ret env_nil mixedP rfl rfl (or3_run _ _ _))) rfl
  · cases h
abbrev L_co : List (FuncId × Spec) := [(53, e_cmp), (52, e_or)]
theorem hE_co : ESound Tryz.prog (envOf L_co) := env_cons ok_cmp (env_cons ok_or env_nil)
end Go.Proofs.YtbjealobiblabaaGreatDoor

namespace Go.Proofs.YtbjealobiblabaaGreatDoor
open Go Go.RowKit
section
variable {P : Program} {ρ : Rho} {m : MS} {w w' : World}
/-- All blocks but one of the call's own stay; new ones may come: that one is no more seen. -/
theorem MRel.gone2 {l : Nat} {b : ABlk} (h : MRel ρ m w) (hl : look m.bl l = some b) (hw : b.wr = true) (hsz : w.heap.size ≤ w'.heap.size)
    (hoth : ∀ g, g < w.heap.size → g ≠ (ρ l).b → w'.heap[g]? = w.heap[g]?) : MRel ρ ⟨upd m.bl l none, m.nx⟩ w' := by
  refine ⟨fun l' b' hl' => ?_, fun l1 b1 l2 b2 h1 h2 hw1 hne hnv => ?_, fun l1 b1 l2 b2 h1 h2 => h.deep l1 b1 l2 b2 (upd_sub _ _ h1) (upd_sub _ _ h2)⟩
  · have hl2 := upd_sub _ _ hl'
    obtain ⟨h1, h2⟩ := h.blk l' b' hl2
    refine ⟨h1, ?_⟩
    have hne : l' ≠ l := fun e => by
      subst e
      rw [look_upd, if_pos rfl] at hl'
      cases hl'
    by_cases hv : b'.void
    · exact ABlk.ok.any hv _
    · exact h2.ext (fun _ _ => rfl) (Nat.le_refl _) hsz (hoth _ (h2.lt.resolve_right hv) (h.apart l b l' b' hl hl2 hw hne hv)) fun hn' g hg => hoth g (h2.tlt hn' g hg) (fun e' => by rw [e', h.deep l b l' b' hl hl2 hw hn'] at hg; cases hg)
  · exact h.apart l1 b1 l2 b2 (upd_sub _ _ h1) (upd_sub _ _ h2) hw1 hne hnv
/-- That one, with what it holds now. -/
theorem MRel.redo {l : Nat} {b b' : ABlk} (h : MRel ρ m w) (hl : look m.bl l = some b) (hw : b.wr = true) (hnn : b'.cont.nested = false) (hsz : w.heap.size ≤ w'.heap.size) (hos : w'.os = w.os) (htp : w'.tape = w.tape) (hout : OutLe w w')
    (hoth : ∀ g, g < w.heap.size → g ≠ (ρ l).b → w'.heap[g]? = w.heap[g]?) (hok : b'.ok ρ m.nx (ρ l) w') :
    MRel ρ ⟨upd m.bl l (some b'), m.nx⟩ w' ∧ Moves m.nx ρ ρ m ⟨upd m.bl l (some b'), m.nx⟩ w w' := by
  have key : ∀ j x, look (upd m.bl l (some b')) j = some x → (j = l ∧ x = b') ∨ (j ≠ l ∧ look m.bl j = some x) := fun j x hj => by
    rw [look_upd] at hj
    split at hj
    · rename_i e; cases hj; exact .inl ⟨e.symm, rfl⟩
    · rename_i e; exact .inr ⟨Ne.symm e, hj⟩
  refine ⟨⟨fun j x hj => ?_, fun j x j' x' h1 h2 hw1 hne hnv => ?_, fun j x j' x' h1 h2 hw1 hn2 => ?_⟩, ⟨fun _ _ => rfl, Nat.le_refl _, hos, htp, hout, hsz, fun g hg hn => hoth g hg fun e => hn ⟨l, b, hl, hw, e.symm⟩, fun g ⟨j, x, h1, h2, h3⟩ => .inl ?_⟩⟩
  · rcases key j x hj with ⟨rfl, rfl⟩ | ⟨hne, hj⟩
    · exact ⟨(h.blk j b hl).1, hok⟩
    · obtain ⟨h1, h2⟩ := h.blk j x hj
      refine ⟨h1, ?_⟩
      by_cases hv : x.void
      · exact ABlk.ok.any hv _
      · exact h2.ext (fun _ _ => rfl) (Nat.le_refl _) hsz (hoth _ (h2.lt.resolve_right hv) (h.apart l b j x hl hj hw hne hv)) fun hn' g hg => hoth g (h2.tlt hn' g hg) (fun e' => by rw [e', h.deep l b j x hl hj hw hn'] at hg; cases hg)
  · rcases key j x h1 with ⟨rfl, rfl⟩ | ⟨hjl, hj⟩
    · rcases key j' x' h2 with ⟨rfl, _⟩ | ⟨hjl', hj'⟩
      · exact absurd rfl hne
      · exact h.apart j b j' x' hl hj' hw hne hnv
    · rcases key j' x' h2 with ⟨rfl, rfl⟩ | ⟨hjl', hj'⟩
      · exact h.apart j x j' b hj hl hw1 hne (wr_not_void hw)
      · exact h.apart j x j' x' hj hj' hw1 hne hnv
  · rcases key j' x' h2 with ⟨rfl, rfl⟩ | ⟨hjl', hj'⟩
    · rw [hnn] at hn2; cases hn2
    · rcases key j x h1 with ⟨rfl, rfl⟩ | ⟨hjl, hj⟩
      · exact h.deep j b j' x' hl hj' hw hn2
      · exact h.deep j x j' x' hj hj' hw1 hn2
  · rcases key j x h1 with ⟨rfl, rfl⟩ | ⟨hjl, hj⟩
    · exact ⟨j, b, hl, hw, h3⟩
    · exact ⟨j, x, hj, h2, h3⟩
/-- A world that has grown is the old one, grown. -/
theorem grown_of (ho : w'.os = w.os) (ht : w'.tape = w.tape) (hout : OutLe w w') (hs : w.heap.size ≤ w'.heap.size) (hk : ∀ g, g < w.heap.size → w'.heap[g]? = w.heap[g]?) : ∃ (q : Nat) (os' : Array Obj), w' = Go.Sort.grow (w.drewN q) os' := by
  refine ⟨w'.drawn - w.drawn, w'.heap.extract w.heap.size w'.heap.size, ?_⟩
  obtain ⟨hout, hd⟩ := hout
  obtain ⟨heap', tape', drawn', os', output'⟩ := w'
  obtain ⟨heap, tape, drawn, os, output⟩ := w
  simp only at ho ht hout hs hk hd
  subst ho ht hout
  have e1 : heap' = heap ++ heap'.extract heap.size heap'.size := by
    apply Array.ext_getElem?
    intro k
    rw [Array.getElem?_append]
    by_cases h : k < heap.size
    · rw [if_pos h]; exact hk k h
    · rw [if_neg h, Array.getElem?_extract, Nat.add_sub_cancel' (by omega)]
      by_cases h2 : k < heap'.size
      · rw [if_pos (by omega)]
      · rw [if_neg (by omega)]; exact Array.getElem?_eq_none (by omega)
  have e2 : drawn' = drawn + (drawn' - drawn) := by omega
  show (⟨heap', tape', drawn', os', output'⟩ : World) = ⟨heap ++ heap'.extract heap.size heap'.size, tape', drawn + (drawn' - drawn), os', output'⟩
  rw [← e1, ← e2]
theorem sortWorld_other {β : Type} [Inhabited β] {enc : β → Value} {blk off n : Nat} {F : Array β} {os : Array Obj} (g : Nat) (hg : g < w.heap.size) (hne : g ≠ blk) : (sortWorld enc w blk off n F os).heap[g]? = w.heap[g]? := by
  unfold sortWorld
  rw [Go.Sort.heap_grow_old _ _ (by rw [Go.Sort.size_putRow]; exact hg)]
  unfold Go.Sort.putRow Go.Sort.mapBlock
  simp only [Array.getElem?_modify]
  rw [if_neg (Ne.symm hne)]
  rfl
theorem sortWorld_size {β : Type} [Inhabited β] {enc : β → Value} {blk off n : Nat} {F : Array β} {os : Array Obj} : w.heap.size ≤ (sortWorld enc w blk off n F os).heap.size := by
  unfold sortWorld
  rw [Go.Sort.size_grow, Go.Sort.size_putRow]
  exact Nat.le_add_right _ _
theorem sortWorld_out {β : Type} [Inhabited β] {enc : β → Value} {blk off n : Nat} {F : Array β} {os : Array Obj} : OutLe w (sortWorld enc w blk off n F os) := ⟨rfl, Nat.le_add_right _ _⟩
/-- The comparison's calls, in whatever world of the sort's. -/
theorem cmp_calls {β : Type} [Inhabited β] {ax ay : AV} {g : FuncId} {cs : List AV} {ys : List Value} {l : Nat} {b : ABlk} {vx vy : Value} {z : Int} {enc : β → Value} {n off : Nat} {F : Array β} {os : Array Obj} (h : MRel ρ m w) (hl : look m.bl l = some b) (hw : b.wr = true) (hcs : AV.rels ρ m.nx cs ys)
    (eg : ∀ args w, (callFunc g args).run P w = .ok (.enter g args) w) (hx : AV.rel ρ m.nx ax vx) (hy : AV.rel ρ m.nx ay vy) (hf : ∃ m', FSound P g ⟨roB (upd m.bl l none), m.nx⟩ (ax :: ay :: cs) (vi z) m') :
    Calls P g (#[vx, vy] ++ ys.toArray) (sortWorld enc w (ρ l).b off n F os) fun e w' => e = .returned (.int .i64 z) ∧ ∃ q os', w' = Go.Sort.grow ((sortWorld enc w (ρ l).b off n F os).drewN q) os' := by
  have h1 := h.gone2 hl hw (sortWorld_size (enc := enc) (off := off) (n := n) (F := F) (os := os)) fun g hg hne => sortWorld_other g hg hne
  obtain ⟨m', hf⟩ := hf
  have ea : #[vx, vy] ++ ys.toArray = (vx :: vy :: ys).toArray := by simp
  rw [ea]
  rcases hf ρ _ (vx :: vy :: ys) (still_mrel h1) (by simp only [AV.rels]; exact ⟨vx, _, rfl, hx, vy, _, rfl, hy, hcs⟩) with ⟨j, hj, hc⟩ | ⟨x, w', hj, _⟩
  · rw [eg] at hj
    cases hj
    refine Calls.mono hc fun e w' ⟨x, he, ρ', hr, _, mv⟩ => ?_
    simp only [AV.rel] at hr
    subst hr
    exact ⟨he, grown_of mv.os mv.tape mv.output mv.size fun g hg => mv.keep g hg (roB_noWr g)⟩
  · rw [eg] at hj
    cases hj
/-- What the sort leaves. -/
theorem sort_end {β : Type} [Inhabited β] {enc : β → Value} {l : Nat} {b : ABlk} {k' : Cont} {n : Nat} {F0 F : Array β} {os : Array Obj} (h : MRel ρ m w) (hl : look m.bl l = some b) (hw : b.wr = true) (hlt : (ρ l).b < w.heap.size) (hH : Go.Sort.Holds enc w (ρ l).b (ρ l).o F0) (hs : F.size = F0.size) (hpl : k'.plain = true)
    (hat : ∀ r c a, k'.at r c = some (a, true) → c < k'.width ∧ r * k'.width + c < F.size ∧ AV.rel ρ m.nx a (enc F[r * k'.width + c]!)) :
    MRel ρ ⟨upd m.bl l (some ⟨true, false, k'⟩), m.nx⟩ (sortWorld enc w (ρ l).b (ρ l).o n F os) ∧ Moves m.nx ρ ρ m ⟨upd m.bl l (some ⟨true, false, k'⟩), m.nx⟩ w (sortWorld enc w (ρ l).b (ρ l).o n F os) := by
  have hH' : Go.Sort.Holds enc (Go.Sort.ahead w n) (ρ l).b (ρ l).o F0 := hH
  have hbl := (h.blk l b hl).2
  refine h.redo hl hw (Cont.nested_plain hpl) sortWorld_size rfl rfl sortWorld_out (fun g hg hne => sortWorld_other g hg hne) ⟨.inl (Nat.lt_of_lt_of_le hlt sortWorld_size), fun r c a ha => ?_, fun _ j => ?_, (fun ho => by cases ho), fun q hq => absurd hq (Cont.plain_ne hpl q)⟩
  · obtain ⟨h1, h2, h3⟩ := hat r c a ha
    refine ⟨h1, _, ?_, h3⟩
    show (sortWorld enc w (ρ l).b (ρ l).o n F os).cell? ⟨(ρ l).b, (ρ l).o + (r * k'.width + c), none⟩ = _
    unfold sortWorld
    rw [Go.Sort.cell?_grow _ _ _ (by rw [Go.Sort.size_putRow]; exact hlt)]
    exact Go.Sort.cell?_putRow enc _ _ _ F0 F hH' hs _ h2
  · unfold sortWorld
    rw [Go.Sort.frozen?_grow _ _ _ (by rw [Go.Sort.size_putRow]; exact hlt), Go.Sort.frozen?_putRow]
    exact hbl.free hw j
/-- At ints: sorted by an order in which no two are alike. -/
theorem sort_ints {ren : Go.Shelf.Ren} (L : SlLaysF.n6 P ren) (L0 : SlLaysF0.n6 P ren) {α : Type} [Inhabited α] (enc : α → Int) (cf : α → α → Int) (hO : Go.Sort.SWO (ltOf cf)) (hT : ∀ x y, (ltOf cf) x y = false → (ltOf cf) y x = false → x = y) {f g : FuncId} {cs : List AV} {l : Nat} {op nn : Bool} {cap : Option Nat} (d : List α) (hd : d.length < 4611686018427387904)
    (hl : look m.bl l = some ⟨true, op, .col (.ints .i64 (d.map enc))⟩) (ef : ∀ args w, (callFunc f args).run P w = .ok (.enter (ren.f 6) args) w) (eg : ∀ args w, (callFunc g args).run P w = .ok (.enter g args) w)
    (hf : ∀ x y : α, ∃ m', FSound P g ⟨roB (upd m.bl l none), m.nx⟩ (vi (enc x) :: vi (enc y) :: cs) (vi (cf x y)) m') :
    FSound P f m [.sl nn l 1 0 1 d.length cap, .clo g [] cs] (.tup []) ⟨upd m.bl l (some ⟨true, false, .col (.ints .i64 ((d.mergeSort fun x y => !(ltOf cf) y x).map enc))⟩), m.nx⟩ := by
  intro ρ w xs hm hx
  simp only [AV.rels] at hx
  obtain ⟨y, ys, rfl, hy, z, zs, rfl, hz, rfl⟩ := hx
  simp only [AV.rel] at hy hz
  obtain ⟨hlt, A, c, rfl, hnc, hA, _, _⟩ := hy
  obtain ⟨fs, cb, rfl, hfs, hcb⟩ := hz
  simp only [AV.rels] at hfs
  subst hfs
  obtain ⟨_, hok⟩ := hm.blk l _ hl
  have hbl : (ρ l).b < w.heap.size := hok.lt.resolve_right (wr_not_void rfl)
  refine .inl ⟨ren.f 6, ef _ _, ?_⟩
  by_cases h0 : d.length = 0
  · have hd0 : d = [] := List.length_eq_zero_iff.1 h0
    subst hd0
    refine Calls.mono (AnyF.slices_SortFunc_none L0 A c _ w) fun e w' ⟨he, hw'⟩ => ?_
    subst hw'
    refine ⟨_, he, ρ, by simp only [AV.rel, AV.rels]; exact ⟨[], rfl, rfl⟩, ?_⟩
    refine hm.redo hl rfl rfl (Nat.le_refl _) rfl rfl ⟨rfl, Nat.le_refl _⟩ (fun _ _ _ => rfl) ⟨.inl hbl, fun r c a ha => ?_, hok.free, (fun ho => by cases ho), fun q hq => by cases hq⟩
    match c, ha with
    | 0, ha => simp [Cont.at, Col.at] at ha
    | c + 1, ha => cases ha
  · rw [hA (by omega)]
    have hH : Go.Sort.Holds (fun a => Value.int .i64 (enc a)) w (ρ l).b (ρ l).o d.toArray := fun j hj => by
      have hj : j < d.length := by simpa using hj
      obtain ⟨_, x, h1, h2⟩ := hok.rel j 0 (.val (.int .i64 ((d.map enc).getD j 0))) (by simp [Cont.at, Col.at, hj])
      simp only [AV.rel] at h2
      subst h2
      refine ⟨?_, hok.free rfl _⟩
      simp only [Cont.width, Nat.mul_one, Nat.add_zero] at h1
      rw [h1, getElem!_pos d.toArray j (by simpa using hj)]
      simp [List.getD_eq_getElem?_getD, hj]
    have hc := Any.slices_SortFunc_total L (fun a => Value.int .i64 (enc a)) (fun _ => rfl) cf hO g cb.toArray (ρ l).b (ρ l).o c d.toArray w eg
      (fun mm os dk hs x y => cmp_calls hm hl rfl hcb eg (ax := vi (enc x)) (ay := vi (enc y)) (by simp [AV.rel]) (by simp [AV.rel]) (hf x y)) hH hbl (by simpa using hd) hT
    simp only [List.size_toArray, Nat.zero_mul, Nat.add_zero] at hc ⊢
    refine Calls.mono hc fun e w' ⟨he, n, os, hw'⟩ => ?_
    subst hw'
    refine ⟨_, he, ρ, by simp only [AV.rel, AV.rels]; exact ⟨[], rfl, rfl⟩, ?_⟩
    refine sort_end hm hl rfl hbl hH (by simp) rfl fun r c a ha => ?_
    match c, ha with
    | 0, ha =>
      simp only [Cont.at, Col.at, Option.some.injEq, Prod.mk.injEq, decide_eq_true_eq, List.length_map] at ha
      obtain ⟨rfl, hr⟩ := ha
      refine ⟨by show (0 : Nat) < 1; omega, by simpa [Cont.width] using hr, ?_⟩
      simp only [AV.rel, Cont.width, Nat.mul_one, Nat.add_zero]
      rw [getElem!_pos _ r (by simpa using hr), List.getD_eq_getElem?_getD, List.getElem?_eq_getElem (by rw [List.length_map]; exact hr), Option.getD_some, List.getElem_map]
      rfl
    | c + 1, ha => cases ha
end
end Go.Proofs.YtbjealobiblabaaGreatDoor

namespace Go.Proofs.YtbjealobiblabaaGreatDoor
open Go Go.RowKit
/-- Fields of things as columns, as values. -/
def colsF {α : Type} (fs : List (α → Int)) (d : List α) : List Col := fs.map fun f => .ints .i64 (d.map f)
def encF {α : Type} (fs : List (α → Int)) (x : α) : List Value := fs.map fun f => .int .i64 (f x)
def encA {α : Type} (fs : List (α → Int)) (x : α) : List AV := fs.map fun f => .val (.int .i64 (f x))
section
variable {P : Program} {ρ : Rho} {m : MS} {w w' : World}
theorem encF_rel {α : Type} {nx : Nat} (fs : List (α → Int)) (x : α) : AV.rel ρ nx (.agg (encA fs x)) (.agg (encF fs x).toArray) := by
  simp only [AV.rel]
  refine ⟨_, rfl, ?_⟩
  unfold encA encF
  induction fs with
  | nil => simp [AV.rels]
  | cons f fs ih => simp only [List.map_cons, AV.rels, AV.rel]; exact ⟨_, _, rfl, rfl, ih⟩
theorem flat_at {α : Type} [Inhabited α] {enc : α → List Value} {k : Nat} {d : Array α} {r c : Nat} (hr : r < d.size) (hc : c < k) : r * k + c < (Go.Sort.flatK enc k d).size ∧ (Go.Sort.flatK enc k d)[r * k + c]! = (enc d[r]!)[c]! := by
  have lt : r * k + c < d.size * k := by
    have := Nat.mul_le_mul_right k (show r + 1 ≤ d.size from hr)
    rw [Nat.add_mul, Nat.one_mul] at this
    omega
  refine ⟨by rw [Go.Sort.size_flatK]; exact lt, ?_⟩
  rw [Go.Sort.get_flatK _ _ _ _ lt, Nat.mul_comm, Nat.mul_add_div (by omega), Nat.div_eq_of_lt hc, Nat.add_zero, Nat.mul_add_mod, Nat.mod_eq_of_lt hc]
/-- At structs: sorted by an order in which no two are alike. -/
theorem sort_rows {ren : Go.Shelf.Ren} (L0 : SlLaysF0.n6 P ren) {α : Type} [Inhabited α] (fs : List (α → Int)) (aE : ∀ w, (isAgg (ren.t 24)).run P w = .ok true w) (zE : ∀ w, (Go.sizeOf (ren.t 24)).run P w = .ok fs.length w) (cf : α → α → Int) (hO : Go.Sort.SWO (ltOf cf)) (hT : ∀ x y, (ltOf cf) x y = false → (ltOf cf) y x = false → x = y) {f g : FuncId} {cs : List AV} {l : Nat} {op nn : Bool} {cap : Option Nat} (d : List α) (hd : d.length < 4611686018427387904) (hp : 0 < d.length)
    (hl : look m.bl l = some ⟨true, op, .rows (colsF fs d)⟩) (ef : ∀ args w, (callFunc f args).run P w = .ok (.enter (ren.f 6) args) w) (eg : ∀ args w, (callFunc g args).run P w = .ok (.enter g args) w)
    (hf : ∀ x y : α, ∃ m', FSound P g ⟨roB (upd m.bl l none), m.nx⟩ (.agg (encA fs x) :: .agg (encA fs y) :: cs) (vi (cf x y)) m') :
    FSound P f m [.sl nn l fs.length 0 1 d.length cap, .clo g [] cs] (.tup []) ⟨upd m.bl l (some ⟨true, false, .rows (colsF fs (d.mergeSort fun x y => !(ltOf cf) y x))⟩), m.nx⟩ := by
  intro ρ w xs hm hx
  simp only [AV.rels] at hx
  obtain ⟨y, ys, rfl, hy, z, zs, rfl, hz, rfl⟩ := hx
  simp only [AV.rel] at hy hz
  obtain ⟨hlt, A, c, rfl, hnc, hA, _, _⟩ := hy
  obtain ⟨gs, cb, rfl, hgs, hcb⟩ := hz
  simp only [AV.rels] at hgs
  subst hgs
  obtain ⟨_, hok⟩ := hm.blk l _ hl
  have hbl : (ρ l).b < w.heap.size := hok.lt.resolve_right (wr_not_void rfl)
  refine .inl ⟨ren.f 6, ef _ _, ?_⟩
  rw [hA hp]
  have hwid : (Cont.rows (colsF fs d)).width = fs.length := by simp [Cont.width, colsF]
  have hH : Go.Sort.HoldsK (encF fs) fs.length w (ρ l).b (ρ l).o d.toArray := fun j hj => by
    have hj' : j < d.length * fs.length := by simpa using hj
    have hpos : 0 < fs.length := by
      rcases Nat.eq_zero_or_pos fs.length with h | h
      · rw [h] at hj'; simp at hj'
      · exact h
    have hr : j / fs.length < d.length := Nat.div_lt_of_lt_mul (by rw [Nat.mul_comm]; exact hj')
    have hc : j % fs.length < fs.length := Nat.mod_lt _ hpos
    obtain ⟨_, x, h1, h2⟩ := hok.rel (j / fs.length) (j % fs.length) (.val (.int .i64 ((d.map (fs[j % fs.length])).getD (j / fs.length) 0))) (by
      simp only [Cont.at, colsF, List.getElem?_map, List.getElem?_eq_getElem hc, Option.map_some, Col.at, List.length_map, decide_eq_true hr])
    simp only [AV.rel] at h2
    subst h2
    rw [hwid, Nat.div_add_mod'] at h1
    have h1 : w.cell? ⟨(ρ l).b, (ρ l).o + j, none⟩ = _ := h1
    refine ⟨?_, hok.free rfl _⟩
    rw [h1, Go.Sort.get_flatK _ _ _ _ (by simpa using hj)]
    rw [getElem!_pos d.toArray _ (by simpa using hr)]
    simp [encF, List.getD_eq_getElem?_getD, hr, hc]
  have hc := AnyQ.slices_SortFunc_total L0 fs.length aE zE (encF fs) (fun x => by simp [encF]) (fun x v hv => by
      simp only [encF, List.mem_map] at hv
      obtain ⟨_, _, rfl⟩ := hv
      rfl) cf hO g cb.toArray (ρ l).b (ρ l).o c d.toArray w eg
    (fun mm os dk hs x y => cmp_calls (enc := id) (n := mm) (off := (ρ l).o) (F := Go.Sort.flatK (encF fs) fs.length dk) (os := os) hm hl rfl hcb eg (encF_rel fs x) (encF_rel fs y) (hf x y)) hH hbl (by simpa using hd) hT
  simp only [List.size_toArray, Nat.zero_mul, Nat.add_zero] at hc ⊢
  refine Calls.mono hc fun e w' ⟨he, n, os, hw'⟩ => ?_
  subst hw'
  refine ⟨_, he, ρ, by simp only [AV.rel, AV.rels]; exact ⟨[], rfl, rfl⟩, ?_⟩
  have hlen : (d.mergeSort fun x y => !(ltOf cf) y x).length = d.length := by simp
  refine sort_end (enc := id) (F0 := Go.Sort.flatK (encF fs) fs.length d.toArray) (F := Go.Sort.flatK (encF fs) fs.length (d.mergeSort fun x y => !(ltOf cf) y x).toArray) hm hl rfl hbl hH (by simp) rfl fun r c a ha => ?_
  generalize (d.mergeSort fun x y => !(ltOf cf) y x) = d' at ha hlen ⊢
  simp only [Cont.at, colsF, List.getElem?_map] at ha
  cases hfc : fs[c]? with
  | none => rw [hfc] at ha; cases ha
  | some f =>
    rw [hfc] at ha
    simp only [Option.map_some, Col.at, Option.some.injEq, Prod.mk.injEq, decide_eq_true_eq, List.length_map] at ha
    obtain ⟨rfl, hr⟩ := ha
    have hcl : c < fs.length := (List.getElem?_eq_some_iff.1 hfc).1
    have hw2 : (Cont.rows (colsF fs d')).width = fs.length := by simp [Cont.width, colsF]
    rw [hw2]
    obtain ⟨g1, g2⟩ := flat_at (enc := encF fs) (k := fs.length) (d := d'.toArray) (r := r) (c := c) (by simpa using hr) hcl
    refine ⟨hcl, g1, ?_⟩
    simp only [AV.rel, id]
    rw [g2, getElem!_pos d'.toArray _ (by simpa using hr)]
    have : (encF fs d'.toArray[r])[c]! = .int .i64 (f d'[r]) := by
      simp only [encF, List.getElem_toArray]
      rw [getElem!_pos _ c (by simpa using hcl), List.getElem_map]
      have := (List.getElem?_eq_some_iff.1 hfc).2
      rw [this]
    rw [this, List.getD_eq_getElem?_getD, List.getElem?_map, List.getElem?_eq_getElem hr]
    rfl
end
end Go.Proofs.YtbjealobiblabaaGreatDoor

namespace Go.Proofs.YtbjealobiblabaaGreatDoor
open Go Go.Shelf
def Tryz.layF6_ren : Ren :=
{
  f := fun x =>
    match x with
    | 6 => 56
    | 15 => 68
    | 14 => 70
    | 28 => 86
    | 29 => 87
    | 20 => 88
    | 21 => 89
    | 22 => 90
    | 23 => 91
    | 24 => 92
    | 25 => 93
    | 26 => 94
    | 27 => 95
    | 46 => 108
    | 47 => 104
    | 48 => 105
    | 49 => 109
    | 50 => 110
    | 57 => 119
    | n => n,
  t := fun x =>
    match x with
    | 22 => 39
    | 24 => 3
    | 25 => 116
    | 3 => 3
    | 39 => 128
    | 0 => 0
    | 53 => 149
    | 55 => 120
    | 4 => 4
    | 46 => 142
    | 45 => 141
    | 50 => 146
    | 5 => 5
    | 9 => 9
    | 66 => 164
    | 70 => 168
    | 76 => 177
    | 77 => 178
    | n => n,
  g := fun x => x }
theorem Tryz.layF6 : SlLaysF.n6 Tryz.prog Tryz.layF6_ren :=
{ mixed := by kernel_rfl,
  f6 :=
    ⟨"slices.SortFunc[[]int,int]", of_decide_eq_true (by kernel_rfl), (Tryz.func56).trans (congrArg some (by kernel_rfl))⟩,
  f14 :=
    ⟨"slices.pdqsortCmpFunc[int]", of_decide_eq_true (by kernel_rfl), (Tryz.func70).trans (congrArg some (by kernel_rfl))⟩,
  f15 := (Tryz.func68).trans (congrArg some (by kernel_rfl)),
  f20 :=
    ⟨"slices.insertionSortCmpFunc[int]", of_decide_eq_true (by kernel_rfl), (Tryz.func88).trans (congrArg some (by kernel_rfl))⟩,
  f21 :=
    ⟨"slices.heapSortCmpFunc[int]", of_decide_eq_true (by kernel_rfl), (Tryz.func89).trans (congrArg some (by kernel_rfl))⟩,
  f22 :=
    ⟨"slices.breakPatternsCmpFunc[int]", of_decide_eq_true (by kernel_rfl), (Tryz.func90).trans (congrArg some (by kernel_rfl))⟩,
  f23 :=
    ⟨"slices.choosePivotCmpFunc[int]", of_decide_eq_true (by kernel_rfl), (Tryz.func91).trans (congrArg some (by kernel_rfl))⟩,
  f24 :=
    ⟨"slices.reverseRangeCmpFunc[int]", of_decide_eq_true (by kernel_rfl), (Tryz.func92).trans (congrArg some (by kernel_rfl))⟩,
  f25 :=
    ⟨"slices.partialInsertionSortCmpFunc[int]", of_decide_eq_true (by kernel_rfl), (Tryz.func93).trans (congrArg some (by kernel_rfl))⟩,
  f26 :=
    ⟨"slices.partitionEqualCmpFunc[int]", of_decide_eq_true (by kernel_rfl), (Tryz.func94).trans (congrArg some (by kernel_rfl))⟩,
  f27 :=
    ⟨"slices.partitionCmpFunc[int]", of_decide_eq_true (by kernel_rfl), (Tryz.func95).trans (congrArg some (by kernel_rfl))⟩,
  f28 := (Tryz.func86).trans (congrArg some (by kernel_rfl)),
  f29 := (Tryz.func87).trans (congrArg some (by kernel_rfl)),
  f46 :=
    ⟨"slices.siftDownCmpFunc[int]", of_decide_eq_true (by kernel_rfl), (Tryz.func108).trans (congrArg some (by kernel_rfl))⟩,
  f47 := (Tryz.func104).trans (congrArg some (by kernel_rfl)),
  f48 := (Tryz.func105).trans (congrArg some (by kernel_rfl)),
  f49 :=
    ⟨"slices.medianAdjacentCmpFunc[int]", of_decide_eq_true (by kernel_rfl), (Tryz.func109).trans (congrArg some (by kernel_rfl))⟩,
  f50 :=
    ⟨"slices.medianCmpFunc[int]", of_decide_eq_true (by kernel_rfl), (Tryz.func110).trans (congrArg some (by kernel_rfl))⟩,
  f57 :=
    ⟨"slices.order2CmpFunc[int]", of_decide_eq_true (by kernel_rfl), (Tryz.func119).trans (congrArg some (by kernel_rfl))⟩,
  t0 := Tryz.underlying0, a0 := Tryz.isAgg0, z0 := Tryz.sizeOf0, v0 := Tryz.zeroValue0, t3 := Tryz.underlying3,
  a3 := Tryz.isAgg3, z3 := Tryz.sizeOf3, v3 := Tryz.zeroValue3, t4 := Tryz.underlying4, a4 := Tryz.isAgg4,
  z4 := Tryz.sizeOf4, v4 := Tryz.zeroValue4, t5 := Tryz.underlying5, a5 := Tryz.isAgg5, z5 := Tryz.sizeOf5,
  v5 := Tryz.zeroValue5, t9 := Tryz.underlying9, a9 := Tryz.isAgg9, z9 := Tryz.sizeOf9, v9 := Tryz.zeroValue9,
  t22 := Tryz.underlying39, a22 := Tryz.isAgg39, z22 := Tryz.sizeOf39, v22 := Tryz.zeroValue39, a24 := Tryz.isAgg3,
  z24 := Tryz.sizeOf3, t25 := Tryz.underlying116, a25 := Tryz.isAgg116, z25 := Tryz.sizeOf116, v25 := Tryz.zeroValue116,
  t39 := Tryz.underlying128, a39 := Tryz.isAgg128, z39 := Tryz.sizeOf128, v39 := Tryz.zeroValue128,
  t45 := Tryz.underlying141, a45 := Tryz.isAgg141, z45 := Tryz.sizeOf141, v45 := Tryz.zeroValue141,
  t46 := Tryz.underlying142, a46 := Tryz.isAgg142, z46 := Tryz.sizeOf142, v46 := Tryz.zeroValue142,
  t50 := Tryz.underlying146, a50 := Tryz.isAgg146, z50 := Tryz.sizeOf146, v50 := Tryz.zeroValue146,
  t53 := Tryz.underlying149, a53 := Tryz.isAgg149, z53 := Tryz.sizeOf149, v53 := Tryz.zeroValue149,
  t55 := Tryz.underlying120, a55 := Tryz.isAgg120, z55 := Tryz.sizeOf120, v55 := Tryz.zeroValue120,
  t66 := Tryz.underlying164, a66 := Tryz.isAgg164, z66 := Tryz.sizeOf164, v66 := Tryz.zeroValue164,
  t70 := Tryz.underlying168, a70 := Tryz.isAgg168, z70 := Tryz.sizeOf168, v70 := Tryz.zeroValue168,
  t76 := Tryz.underlying177, a76 := Tryz.isAgg177, z76 := Tryz.sizeOf177, v76 := Tryz.zeroValue177,
  t77 := Tryz.underlying178, a77 := Tryz.isAgg178, z77 := Tryz.sizeOf178, v77 := Tryz.zeroValue178 }
def Tryz.layQ6_ren : Ren :=
{
  f := fun x =>
    match x with
    | 6 => 50
    | 15 => 68
    | 14 => 67
    | 28 => 86
    | 29 => 87
    | 20 => 78
    | 21 => 79
    | 22 => 80
    | 23 => 81
    | 24 => 82
    | 25 => 83
    | 26 => 84
    | 27 => 85
    | 46 => 103
    | 47 => 104
    | 48 => 105
    | 49 => 106
    | 50 => 107
    | 57 => 118
    | n => n,
  t := fun x =>
    match x with
    | 22 => 88
    | 24 => 91
    | 25 => 117
    | 3 => 3
    | 39 => 128
    | 0 => 0
    | 53 => 149
    | 55 => 120
    | 4 => 4
    | 46 => 142
    | 45 => 141
    | 50 => 146
    | 5 => 5
    | 9 => 9
    | 66 => 164
    | 70 => 168
    | 76 => 177
    | 77 => 178
    | n => n,
  g := fun x => x }
theorem Tryz.layQ6 : SlLaysF0.n6 Tryz.prog Tryz.layQ6_ren :=
{ mixed := by kernel_rfl,
  f6 :=
    ⟨"slices.SortFunc[[]haymow/census.Row,haymow/census.Row]", of_decide_eq_true (by kernel_rfl), (Tryz.func50).trans (congrArg some (by kernel_rfl))⟩,
  f14 :=
    ⟨"slices.pdqsortCmpFunc[haymow/census.Row]", of_decide_eq_true (by kernel_rfl), (Tryz.func67).trans (congrArg some (by kernel_rfl))⟩,
  f15 := (Tryz.func68).trans (congrArg some (by kernel_rfl)),
  f20 :=
    ⟨"slices.insertionSortCmpFunc[haymow/census.Row]", of_decide_eq_true (by kernel_rfl), (Tryz.func78).trans (congrArg some (by kernel_rfl))⟩,
  f21 :=
    ⟨"slices.heapSortCmpFunc[haymow/census.Row]", of_decide_eq_true (by kernel_rfl), (Tryz.func79).trans (congrArg some (by kernel_rfl))⟩,
  f22 :=
    ⟨"slices.breakPatternsCmpFunc[haymow/census.Row]", of_decide_eq_true (by kernel_rfl), (Tryz.func80).trans (congrArg some (by kernel_rfl))⟩,
  f23 :=
    ⟨"slices.choosePivotCmpFunc[haymow/census.Row]", of_decide_eq_true (by kernel_rfl), (Tryz.func81).trans (congrArg some (by kernel_rfl))⟩,
  f24 :=
    ⟨"slices.reverseRangeCmpFunc[haymow/census.Row]", of_decide_eq_true (by kernel_rfl), (Tryz.func82).trans (congrArg some (by kernel_rfl))⟩,
  f25 :=
    ⟨"slices.partialInsertionSortCmpFunc[haymow/census.Row]", of_decide_eq_true (by kernel_rfl), (Tryz.func83).trans (congrArg some (by kernel_rfl))⟩,
  f26 :=
    ⟨"slices.partitionEqualCmpFunc[haymow/census.Row]", of_decide_eq_true (by kernel_rfl), (Tryz.func84).trans (congrArg some (by kernel_rfl))⟩,
  f27 :=
    ⟨"slices.partitionCmpFunc[haymow/census.Row]", of_decide_eq_true (by kernel_rfl), (Tryz.func85).trans (congrArg some (by kernel_rfl))⟩,
  f28 := (Tryz.func86).trans (congrArg some (by kernel_rfl)),
  f29 := (Tryz.func87).trans (congrArg some (by kernel_rfl)),
  f46 :=
    ⟨"slices.siftDownCmpFunc[haymow/census.Row]", of_decide_eq_true (by kernel_rfl), (Tryz.func103).trans (congrArg some (by kernel_rfl))⟩,
  f47 := (Tryz.func104).trans (congrArg some (by kernel_rfl)),
  f48 := (Tryz.func105).trans (congrArg some (by kernel_rfl)),
  f49 :=
    ⟨"slices.medianAdjacentCmpFunc[haymow/census.Row]", of_decide_eq_true (by kernel_rfl), (Tryz.func106).trans (congrArg some (by kernel_rfl))⟩,
  f50 :=
    ⟨"slices.medianCmpFunc[haymow/census.Row]", of_decide_eq_true (by kernel_rfl), (Tryz.func107).trans (congrArg some (by kernel_rfl))⟩,
  f57 :=
    ⟨"slices.order2CmpFunc[haymow/census.Row]", of_decide_eq_true (by kernel_rfl), (Tryz.func118).trans (congrArg some (by kernel_rfl))⟩,
  t0 := Tryz.underlying0, a0 := Tryz.isAgg0, z0 := Tryz.sizeOf0, v0 := Tryz.zeroValue0, t3 := Tryz.underlying3,
  a3 := Tryz.isAgg3, z3 := Tryz.sizeOf3, v3 := Tryz.zeroValue3, t4 := Tryz.underlying4, a4 := Tryz.isAgg4,
  z4 := Tryz.sizeOf4, v4 := Tryz.zeroValue4, t5 := Tryz.underlying5, a5 := Tryz.isAgg5, z5 := Tryz.sizeOf5,
  v5 := Tryz.zeroValue5, t9 := Tryz.underlying9, a9 := Tryz.isAgg9, z9 := Tryz.sizeOf9, v9 := Tryz.zeroValue9,
  t22 := Tryz.underlying88, a22 := Tryz.isAgg88, z22 := Tryz.sizeOf88, v22 := Tryz.zeroValue88,
  t25 := Tryz.underlying117, a25 := Tryz.isAgg117, z25 := Tryz.sizeOf117, v25 := Tryz.zeroValue117,
  t39 := Tryz.underlying128, a39 := Tryz.isAgg128, z39 := Tryz.sizeOf128, v39 := Tryz.zeroValue128,
  t45 := Tryz.underlying141, a45 := Tryz.isAgg141, z45 := Tryz.sizeOf141, v45 := Tryz.zeroValue141,
  t46 := Tryz.underlying142, a46 := Tryz.isAgg142, z46 := Tryz.sizeOf142, v46 := Tryz.zeroValue142,
  t50 := Tryz.underlying146, a50 := Tryz.isAgg146, z50 := Tryz.sizeOf146, v50 := Tryz.zeroValue146,
  t53 := Tryz.underlying149, a53 := Tryz.isAgg149, z53 := Tryz.sizeOf149, v53 := Tryz.zeroValue149,
  t55 := Tryz.underlying120, a55 := Tryz.isAgg120, z55 := Tryz.sizeOf120, v55 := Tryz.zeroValue120,
  t66 := Tryz.underlying164, a66 := Tryz.isAgg164, z66 := Tryz.sizeOf164, v66 := Tryz.zeroValue164,
  t70 := Tryz.underlying168, a70 := Tryz.isAgg168, z70 := Tryz.sizeOf168, v70 := Tryz.zeroValue168,
  t76 := Tryz.underlying177, a76 := Tryz.isAgg177, z76 := Tryz.sizeOf177, v76 := Tryz.zeroValue177,
  t77 := Tryz.underlying178, a77 := Tryz.isAgg178, z77 := Tryz.sizeOf178, v77 := Tryz.zeroValue178 }
end Go.Proofs.YtbjealobiblabaaGreatDoor

namespace Go.Proofs.YtbjealobiblabaaGreatDoor
open Go Go.RowKit
set_option maxRecDepth 100000
/-- An entry: a key of three numbers, and two. -/
abbrev KV := List Int × List Int
def kA (e : KV) : Int := e.1.headD 0
def kB (e : KV) : Int := e.1.tail.headD 0
def kC (e : KV) : Int := e.1.tail.tail.headD 0
def kD (e : KV) : Int := e.2.headD 0
def kE (e : KV) : Int := e.2.tail.headD 0
abbrev fs5 : List (KV → Int) := [kA, kB, kC, kD, kE]
theorem kq_neg {x y : Int} : cmpI x y < 0 ↔ x < y := by
  unfold cmpI
  by_cases h : x < y
  · simp [h]
  · by_cases h2 : y < x <;> simp [h, h2]
theorem kq_zero {x y : Int} : cmpI x y = 0 ↔ x = y := by
  unfold cmpI
  by_cases h : x < y
  · simp [h]; omega
  · by_cases h2 : y < x
    · simp [h, h2]; omega
    · simp [h, h2]; omega
theorem oq_neg {a b : Int} : orI a b < 0 ↔ a < 0 ∨ (a = 0 ∧ b < 0) := by
  unfold orI
  by_cases h : a = 0
  · subst h; simp
  · simp [h, show (a == 0) = false by simpa using h]
/-- The order of two keys. -/
def cfK (x y : KV) : Int := orI (cmpI (kA x) (kA y)) (orI (cmpI (kB x) (kB y)) (cmpI (kC x) (kC y)))
def LtK (x y : KV) : Prop := kA x < kA y ∨ (kA x = kA y ∧ (kB x < kB y ∨ (kB x = kB y ∧ kC x < kC y)))
theorem cfK_neg {x y : KV} : cfK x y < 0 ↔ LtK x y := by
  unfold cfK LtK
  rw [oq_neg, kq_neg, kq_zero, oq_neg, kq_neg, kq_zero, kq_neg]
def leK (x y : KV) : Bool := !decide (cfK y x < 0)
theorem leK_iff {x y : KV} : leK x y = true ↔ ¬ LtK y x := by
  unfold leK
  rw [Bool.not_eq_true', decide_eq_false_iff_not, cfK_neg]
/-- Entries by their keys' order. -/
def sortK (l : List KV) : List KV := l.mergeSort leK
theorem sortK_perm (l : List KV) : (sortK l).Perm l := List.mergeSort_perm _ _
theorem leK_trans (x y z : KV) (h1 : leK x y = true) (h2 : leK y z = true) : leK x z = true := by
  rw [leK_iff] at *
  unfold LtK at *
  omega
theorem leK_total (x y : KV) : (leK x y || leK y x) = true := by
  rw [Bool.or_eq_true, leK_iff, leK_iff]
  unfold LtK
  omega
theorem sortK_sorted (l : List KV) : (sortK l).Pairwise fun x y => leK x y = true := List.pairwise_mergeSort leK_trans leK_total l
theorem k3_eq {a b : List Int} (ha : a.length = 3) (hb : b.length = 3) (h0 : a.headD 0 = b.headD 0) (h1 : a.tail.headD 0 = b.tail.headD 0) (h2 : a.tail.tail.headD 0 = b.tail.tail.headD 0) : a = b := by
  match a, ha, b, hb with
  | [x, y, z], _, [x', y', z'], _ =>
    simp only [List.headD_cons, List.tail_cons] at h0 h1 h2
    rw [h0, h1, h2]
/-- Keys are of three numbers, and no two alike. -/
def KD (l : List KV) : Prop := (∀ e ∈ l, e.1.length = 3) ∧ (l.map (·.1)).Nodup
instance (l : List KV) : Decidable (KD l) := inferInstanceAs (Decidable (_ ∧ _))
theorem nodup_inj {l : List KV} (h : (l.map (·.1)).Nodup) {x y : KV} (hx : x ∈ l) (hy : y ∈ l) (e : x.1 = y.1) : x = y := by
  induction l with
  | nil => cases hx
  | cons a l ih =>
    rw [List.map_cons, List.nodup_cons] at h
    rcases List.mem_cons.1 hx with rfl | hx'
    · rcases List.mem_cons.1 hy with rfl | hy'
      · rfl
      · exact absurd (List.mem_map.2 ⟨y, hy', e.symm⟩) h.1
    · rcases List.mem_cons.1 hy with rfl | hy'
      · exact absurd (List.mem_map.2 ⟨x, hx', e⟩) h.1
      · exact ih h.2 hx' hy'
theorem KD.inj {l : List KV} (h : KD l) {x y : KV} (hx : x ∈ l) (hy : y ∈ l) (h1 : ¬ LtK x y) (h2 : ¬ LtK y x) : x = y := by
  refine nodup_inj h.2 hx hy (k3_eq (h.1 x hx) (h.1 y hy) ?_ ?_ ?_) <;>
  · unfold LtK at h1 h2
    unfold kA kB kC at h1 h2
    omega
theorem KD.perm {l l' : List KV} (h : KD l) (p : l.Perm l') : KD l' := ⟨fun e he => h.1 e (p.mem_iff.2 he), (p.map _).nodup h.2⟩
/-- One order for all that hold the same. -/
theorem sortK_eq {l l' : List KV} (h : KD l) (p : l.Perm l') : sortK l = sortK l' := by
  refine List.Perm.eq_of_pairwise (le := fun x y => leK x y = true) (fun a b ha hb h1 h2 => ?_) (sortK_sorted l) (sortK_sorted l') ((sortK_perm l).trans (p.trans (sortK_perm l').symm))
  exact h.inj ((sortK_perm l).mem_iff.1 ha) (p.mem_iff.2 ((sortK_perm l').mem_iff.1 hb)) (leK_iff.1 h2) (leK_iff.1 h1)
-- The comparison
theorem rows_cl (x y : KV) : F_ Tryz.prog L_co Tryz.f51 [] [] 99 [.agg (encA fs5 x), .agg (encA fs5 y)] noMem = some (.ret (vi (cfK x y)) ⟨[], 99⟩ true) := by kernel_rfl
theorem rows_cmp (m : MS) (x y : KV) : ∃ m', FSound Tryz.prog 51 m [.agg (encA fs5 x), .agg (encA fs5 y)] (vi (cfK x y)) m' :=
  ⟨m, pure_fn (c := bodyOf Tryz.f51) hE_co mixedP (fun xs w => Tryz.call51 xs w) Tryz.func51 rfl (rows_cl x y) rfl rfl⟩
/-- SortFunc over rows of the entries l. -/
def e_sortR (l : List KV) : Spec := fun m args => match args with
  | [.val (.slice none 0 0), .clo _ [] _] => some (.tup [], none, [])
  | [.sl _ b 5 0 1 n _, .clo g [] []] => match Nat.beq g 51 with
    | true => match look m.bl b with
      | some ⟨true, _, .rows [.ints .i64 c0, .ints .i64 c1, .ints .i64 c2, .ints .i64 c3, .ints .i64 c4]⟩ => some (.tup [], some ⟨upd m.bl b (some ⟨true, false, .rows (colsF fs5 (sortK l))⟩), m.nx⟩,
          [decide (KD l), decide (n = l.length), decide (c0 = l.map kA), decide (c1 = l.map kB), decide (c2 = l.map kC), decide (c3 = l.map kD), decide (c4 = l.map kE), Nat.ble l.length 4096, Nat.blt 0 l.length])
      | _ => none
    | false => none
  | _ => none
theorem sub_map {l : List KV} (f : KV → Int) : l.attach.map (fun e => f e.1) = l.map f := by
  have := congrArg (List.map f) (List.attach_map_subtype_val l)
  rw [List.map_map] at this
  exact this
abbrev fsS (l : List KV) : List ({e : KV // e ∈ l} → Int) := [fun e => kA e.1, fun e => kB e.1, fun e => kC e.1, fun e => kD e.1, fun e => kE e.1]
def cfA (l : List KV) (x y : {e : KV // e ∈ l}) : Int := cfK x.1 y.1
theorem ltA (l : List KV) (x y : {e : KV // e ∈ l}) : ltOf (cfA l) x y = true ↔ LtK x.1 y.1 := by
  unfold ltOf cfA
  rw [decide_eq_true_eq]
  exact cfK_neg
theorem ltA_f (l : List KV) (x y : {e : KV // e ∈ l}) : ltOf (cfA l) x y = false ↔ ¬ LtK x.1 y.1 := by
  rw [← ltA l x y, Bool.not_eq_true]
theorem swoA (l : List KV) : Go.Sort.SWO (ltOf (cfA l)) where
  irrefl x := by rw [ltA_f]; unfold LtK; omega
  trans x y z h1 h2 := by rw [ltA] at *; unfold LtK at *; omega
  ntrans x y z h1 h2 := by rw [ltA_f] at *; unfold LtK at *; omega
theorem sortA (l : List KV) (d : List {e : KV // e ∈ l}) : (d.mergeSort fun x y => !(ltOf (cfA l)) y x).map Subtype.val = sortK (d.map Subtype.val) := by
  unfold sortK
  exact List.map_mergeSort fun a _ b _ => rfl
theorem agg24 : ∀ w, (isAgg (Tryz.layQ6_ren.t 24)).run Tryz.prog w = .ok true w := fun w => by kernel_rfl
theorem size24 : ∀ w, (Go.sizeOf (Tryz.layQ6_ren.t 24)).run Tryz.prog w = .ok 5 w := fun w => by kernel_rfl
theorem ok_sortR (l : List KV) : SpecOk Tryz.prog 50 (e_sortR l) := fun m args v mo bs h hb => by
  unfold e_sortR at h
  split at h
  · rename_i g cs
    cases h
    intro ρ w xs hm hx
    simp only [AV.rels] at hx
    obtain ⟨y, ys, rfl, hy, z, zs, rfl, hz, rfl⟩ := hx
    simp only [AV.rel] at hy hz
    subst hy
    refine .inl ⟨_, Tryz.call50 _ w, Calls.mono (AnyF.slices_SortFunc_none (P := Tryz.prog) (ρ := Tryz.layQ6_ren) Tryz.layQ6 none 0 z w) fun e w' ⟨he, hw'⟩ => ?_⟩
    subst hw'
    exact ⟨_, he, ρ, by simp only [AV.rel, AV.rels]; exact ⟨[], rfl, rfl⟩, hm, Moves.refl (Nat.le_refl _)⟩
  · rename_i nn b n cap g
    split at h <;> try cases h
    rename_i hg
    have hg := Nat.eq_of_beq_eq_true hg
    subst hg
    split at h <;> cases h
    rename_i _ op c0 c1 c2 c3 c4 hl
    simp only [List.all_cons, List.all_nil, id, Bool.and_true, Bool.and_eq_true, decide_eq_true_eq] at hb
    obtain ⟨h1, h2, e0, e1, e2, e3, e4, h5, h6⟩ := hb
    subst h2 e0 e1 e2 e3 e4
    have h5 := Nat.le_of_ble_eq_true h5
    have h6 : 0 < l.length := Nat.le_of_ble_eq_true h6
    have hne : ∃ x, x ∈ l := List.exists_mem_of_length_pos h6
    haveI : Inhabited {e : KV // e ∈ l} := ⟨⟨hne.choose, hne.choose_spec⟩⟩
    have hcols : ∀ d : List {e : KV // e ∈ l}, colsF (fsS l) d = colsF fs5 (d.map Subtype.val) := fun d => by
      simp only [colsF, List.map_cons, List.map_nil, List.map_map]
      rfl
    have g := sort_rows (f := 50) (g := 51) (m := m) (l := b) (op := op) (nn := nn) (cap := cap) (cs := []) Tryz.layQ6 (fsS l) agg24 size24 (cfA l) (swoA l) (fun x y g1 g2 => Subtype.ext (h1.inj x.2 y.2 ((ltA_f l x y).1 g1) ((ltA_f l y x).1 g2))) l.attach (by rw [List.length_attach]; omega) (by rw [List.length_attach]; exact h6)
      (by rw [hcols, List.attach_map_subtype_val]; exact hl) (fun xs w => Tryz.call50 xs w) (fun xs w => Tryz.call51 xs w) (fun x y => rows_cmp _ x.1 y.1)
    rw [hcols, sortA, List.attach_map_subtype_val, List.length_attach] at g
    exact g
  · cases h
-- The walk over the map
theorem sub_len {l s : List Nat} (hl : l.Nodup) (h : ∀ x ∈ l, x ∈ s) : l.length ≤ s.length := by
  induction l generalizing s with
  | nil => exact Nat.zero_le _
  | cons a l ih =>
    rw [List.nodup_cons] at hl
    have ha := h a (List.mem_cons_self ..)
    have h1 := ih (s := s.erase a) hl.2 fun x hx => (List.mem_erase_of_ne (fun e => hl.1 (by rw [← e]; exact hx))).2 (h x (List.mem_cons_of_mem _ hx))
    rw [List.length_erase_of_mem ha] at h1
    have := List.length_pos_of_mem ha
    simp only [List.length_cons]
    omega
theorem seen_full {n : Nat} {seen : List Nat} (hn : seen.Nodup) (hl : ∀ x ∈ seen, x < n) (he : seen.length = n) {j : Nat} (hj : j < n) : j ∈ seen := by
  by_cases h : j ∈ seen
  · exact h
  · have := sub_len (l := j :: seen) (s := List.range n) (List.nodup_cons.2 ⟨h, hn⟩) fun x hx => by
      rcases List.mem_cons.1 hx with rfl | hx
      · exact List.mem_range.2 hj
      · exact List.mem_range.2 (hl x hx)
    rw [List.length_range, List.length_cons] at this
    omega
theorem seen_all {n : Nat} {seen : List Nat} (h : ∀ j, j < n → j ∈ seen) : n ≤ seen.length := by
  have := sub_len (l := List.range n) (s := seen) List.nodup_range fun x hx => h x (List.mem_range.1 hx)
  rwa [List.length_range] at this
/-- The entries in the order they were seen. -/
def seenL (es : List KV) (seen : List Nat) : List KV := seen.reverse.map fun j => es.getD j ([], [])
theorem seenL_cons (es : List KV) (seen : List Nat) (j : Nat) : seenL es (j :: seen) = seenL es seen ++ [es.getD j ([], [])] := by simp [seenL]
theorem seenL_len (es : List KV) (seen : List Nat) : (seenL es seen).length = seen.length := by simp [seenL]
theorem seenL_perm {es : List KV} {seen : List Nat} (hn : seen.Nodup) (hl : ∀ x ∈ seen, x < es.length) (he : seen.length = es.length) : es.Perm (seenL es seen) := by
  have p : (List.range es.length).Perm seen.reverse := by
    rw [List.perm_iff_count]
    intro a
    by_cases h : a < es.length
    · rw [List.count_reverse]
      have h1 : seen.count a = 1 := List.Nodup.count hn |>.trans (if_pos (seen_full hn hl he h))
      have h2 : (List.range es.length).count a = 1 := List.Nodup.count List.nodup_range |>.trans (if_pos (List.mem_range.2 h))
      rw [h1, h2]
    · rw [List.count_reverse, List.count_eq_zero_of_not_mem (fun h' => h (hl a h')), List.count_eq_zero_of_not_mem (fun h' => h (List.mem_range.1 h'))]
  have := p.map fun j => es.getD j ([], [])
  have e : (List.range es.length).map (fun j => es.getD j ([], [])) = es := by
    apply List.ext_getElem
    · simp
    · intro i h1 h2
      simp [List.getD_eq_getElem?_getD, h2]
  rwa [e] at this
abbrev rC : List Cut := [(2,[0,2,3,12],[0,1,2,12],19)]
abbrev rT (x : AV) : List AV := [.ptr 0 1 0 0, .unk, .val (.slice none 0 0), x, .unk, .unk, .unk, .unk, .unk, .unk, .unk, .unk, .ptr 2 1 0 0] ++ List.replicate 14 .unk
abbrev rI (es : List KV) : List (Nat × Option ABlk) := [(0, some ⟨false, false, .cells [.mp 1]⟩), (1, some ⟨false, false, .obj (.mpo 3 2 es)⟩)]
abbrev rW (es : List KV) (seen : List Nat) : Nat × Option ABlk := (2, some ⟨true, false, .obj (.mit [.mp 1] es.length seen)⟩)
abbrev rR (k : Nat) (l : List KV) : Nat × Option ABlk := (k, some ⟨true, true, .rows (colsF fs5 l)⟩)
theorem rows_in (es : List KV) : FO_ Tryz.prog [] Tryz.f30 rC [] 99 [2] [.ptr 0 1 0 0] ⟨rI es, 2⟩ = some (.head (hd Tryz.f30 0) (rT (.val (.slice none 0 0))) ⟨rI es ++ [rW es [], (12, none)], 19⟩ true) := by kernel_rfl
theorem rows_end (es : List KV) (l : List KV) (seen : List Nat) (n : Nat) : NX_ Tryz.prog [(50, e_sortR l)] Tryz.f30 rC [3] 99 [2] none (hd Tryz.f30 0) (rT (.sl true 3 5 0 1 n none)) ⟨rI es ++ [rW es seen, rR 3 l], 9⟩ =
    some (.ret (.sl true 3 5 0 1 n none) ⟨[(3, some ⟨true, false, .rows (colsF fs5 (sortK l))⟩)], 99⟩ (conj [decide (KD l), decide (n = l.length), decide (l.map kA = l.map kA), decide (l.map kB = l.map kB), decide (l.map kC = l.map kC), decide (l.map kD = l.map kD), decide (l.map kE = l.map kE), Nat.ble l.length 4096, Nat.blt 0 l.length])) := by kernel_rfl
end Go.Proofs.YtbjealobiblabaaGreatDoor

namespace Go.Proofs.YtbjealobiblabaaGreatDoor
open Go Go.RowKit
section
variable {P : Program}
theorem two_look {b0 b1 : Option ABlk} {k : Nat} {b : ABlk} (h : look [(0, b0), (1, b1)] k = some b) : (k = 0 ∧ b0 = some b) ∨ (k = 1 ∧ b1 = some b) := by
  rw [look_cons] at h
  split at h
  · rename_i e; exact .inl ⟨e.symm, h⟩
  · rw [look_cons] at h
    split at h
    · rename_i e; exact .inr ⟨e.symm, h⟩
    · cases h
theorem sim_m {m : MS} {l lm fk fv : Nat} {wr op wr' op' : Bool} {es : List (List Int × List Int)} (hl : look m.bl l = some ⟨wr, op, .cells [.mp lm]⟩) (hlm : look m.bl lm = some ⟨wr', op', .obj (.mpo fk fv es)⟩) {br : List AV} (hb : AV.grounds br = true) :
    ∀ (ρ : Rho) (w : World) (xs : List Value), MRel ρ m w → AV.rels ρ m.nx (.ptr l 1 0 0 :: br) xs → ∃ ρ1, MRel ρ1 ⟨[(0, some ⟨false, false, .cells [.mp 1]⟩), (1, some ⟨false, false, .obj (.mpo fk fv es)⟩)], 2⟩ w ∧ AV.rels ρ1 2 (.ptr 0 1 0 0 :: br) xs := fun ρ w xs hm hx => by
  let ρ1 : Rho := fun k => match k with
    | 0 => ρ l
    | _ => ρ lm
  simp only [AV.rels] at hx
  obtain ⟨z, zs, rfl, hz, hbr⟩ := hx
  simp only [AV.rel] at hz
  have h0 := (hm.blk l _ hl).2
  refine ⟨ρ1, mrel_two ⟨?_, ?_, (fun h => by cases h), (fun h => by cases h), fun q h => by cases h⟩ (hm.view hlm rfl ρ1 2) rfl rfl, ?_⟩
  · rcases h0.lt with h | h
    · exact .inl h
    · exact absurd rfl (h.2.2.2 0 0 (.mp lm))
  · intro r c a ha
    match r, c, ha with
    | 0, 0, ha =>
      cases ha
      obtain ⟨h1, x, h2, h3⟩ := h0.rel 0 0 (.mp lm) rfl
      refine ⟨h1, x, h2, ?_⟩
      simp only [AV.rel] at h3 ⊢
      exact ⟨by show (1 : Nat) < 2; omega, h3.2⟩
    | r + 1, 0, ha => cases ha
    | r, c + 1, ha => cases ha
  · simp only [AV.rels]
    refine ⟨z, zs, rfl, ?_, AV.grounds_rels _ _ hb hbr⟩
    simp only [AV.rel]
    exact ⟨by show (0 : Nat) < 2; omega, hz.2⟩
theorem lift_mr {f : FuncId} {m m1' : MS} {v : AV} {l lm fk fv : Nat} {wr op wr' op' : Bool} {es : List (List Int × List Int)} {br : List AV} (hl : look m.bl l = some ⟨wr, op, .cells [.mp lm]⟩) (hlm : look m.bl lm = some ⟨wr', op', .obj (.mpo fk fv es)⟩)
    (h : FSound P f ⟨[(0, some ⟨false, false, .cells [.mp 1]⟩), (1, some ⟨false, false, .obj (.mpo fk fv es)⟩)], 2⟩ (.ptr 0 1 0 0 :: br) v m1') (hb : AV.grounds br = true) (hv : v.ground = true) : FSound P f m (.ptr l 1 0 0 :: br) v m :=
  lift_pure h rfl hv (sim_m hl hlm hb)
theorem lift_mw {f : FuncId} {m : MS} {v : AV} {l lm fk fv top : Nat} {wr op op' o2 : Bool} {es es' : List (List Int × List Int)} {br : List AV} (hl : look m.bl l = some ⟨wr, op, .cells [.mp lm]⟩) (hlm : look m.bl lm = some ⟨true, op', .obj (.mpo fk fv es)⟩)
    (h : FSound P f ⟨[(0, some ⟨false, false, .cells [.mp 1]⟩), (1, some ⟨true, false, .obj (.mpo fk fv es)⟩)], 2⟩ (.ptr 0 1 0 0 :: br) v ⟨[(1, some ⟨true, o2, .obj (.mpo fk fv es')⟩)], top⟩) (hb : AV.grounds br = true) (hv : v.ground = true) :
    FSound P f m (.ptr l 1 0 0 :: br) v ⟨upd m.bl lm (some ⟨true, o2, .obj (.mpo fk fv es')⟩), m.nx⟩ := by
  have hne : l ≠ lm := fun e => by subst e; rw [hl] at hlm; cases hlm
  have := lift_gen (m := m) (args := .ptr l 1 0 0 :: br) (σi := [(0, l), (1, lm)]) (σo := [(l, 0), (lm, 1)]) (nx' := m.nx) h (by
      simp only [AV.rens, AV.ren, newOf, Nat.beq_refl]
      rw [AV.rens_ground _ hb]) (fun k b1 hk => by
      rcases two_look hk with ⟨rfl, e⟩ | ⟨rfl, e⟩
      · cases e
        refine ⟨l, _, by simp, hl, ?_, (fun h => by cases h), fun h => by cases h⟩
        simp only [Cont.ren, AV.rens, AV.ren, newOf, nbeq_ne hne, Nat.beq_refl]
      · cases e
        exact ⟨lm, _, by simp, hlm, (Cont.ren_ground rfl).symm, fun _ => rfl, fun h => by cases h⟩)
    (fun p hp => by
      simp only [List.mem_cons, List.not_mem_nil, or_false] at hp
      rcases hp with rfl | rfl
      · exact ⟨by show (0 : Nat) < 2; omega, by simp⟩
      · exact ⟨by show (1 : Nat) < 2; omega, by simp⟩)
    rfl (by simp [distB, memB, nbeq_ne (Ne.symm hne)]) (by simp [distB, memB, nbeq_ne (Ne.symm hne)]) rfl
    (fun p hp => by
      simp only [List.mem_cons, List.not_mem_nil, or_false] at hp
      rcases hp with rfl | rfl
      · exact ⟨_, hl⟩
      · exact ⟨_, hlm⟩)
    (fun p hp => by
      simp only [List.mem_cons, List.not_mem_nil, or_false] at hp
      rcases hp with rfl | rfl
      · exact .inl (by simp)
      · exact .inl (by simp)) (Nat.le_refl _) (fun k bk hk _ => by
      rw [look_cons] at hk
      split at hk
      · cases hk; rfl
      · cases hk)
  rw [AV.ren_ground _ hv] at this
  refine this.less rfl fun k bk hk => ?_
  have e : outB [(l, 0), (lm, 1)] [(0, some ⟨false, false, .cells [.mp 1]⟩), (1, some ⟨true, false, .obj (.mpo fk fv es)⟩)] [(1, some ⟨true, o2, .obj (.mpo fk fv es')⟩)] [(l, 0), (lm, 1)] m.bl = (lm, some ⟨true, o2, .obj (.mpo fk fv es')⟩) :: m.bl := rfl
  rw [look_upd] at hk
  show look (outB [(l, 0), (lm, 1)] [(0, some ⟨false, false, .cells [.mp 1]⟩), (1, some ⟨true, false, .obj (.mpo fk fv es)⟩)] [(1, some ⟨true, o2, .obj (.mpo fk fv es')⟩)] [(l, 0), (lm, 1)] m.bl) k = some bk
  rw [e, look_cons]
  exact hk
theorem sim_sl {m : MS} {l wd s n : Nat} {nn : Bool} {cap : Option Nat} {b : ABlk} (hl : look m.bl l = some b) (hg : b.cont.ground = true) (hpl : b.cont.plain = true) {br : List AV} (hb : AV.grounds br = true) :
    ∀ (ρ : Rho) (w : World) (xs : List Value), MRel ρ m w → AV.rels ρ m.nx (.sl nn l wd 0 s n cap :: br) xs → ∃ ρ1, MRel ρ1 ⟨[(0, some ⟨false, false, b.cont⟩)], 1⟩ w ∧ AV.rels ρ1 1 (.sl false 0 wd 0 s n none :: br) xs := fun ρ w xs hm hx => by
  simp only [AV.rels] at hx
  obtain ⟨z, zs, rfl, hz, hbr⟩ := hx
  simp only [AV.rel] at hz
  obtain ⟨hll, A, cc, rfl, hnc, hA, _, _⟩ := hz
  have hv := hm.view hl hg (fun _ => ⟨(ρ l).b, (ρ l).o, cc * (s * wd), 0⟩) 1
  refine ⟨fun _ => ⟨(ρ l).b, (ρ l).o, cc * (s * wd), 0⟩, mrel_one ⟨hv.lt, hv.rel, (fun h => by cases h), (fun h => by cases h), fun q h => absurd h (Cont.plain_ne hpl q)⟩, ?_⟩
  simp only [AV.rels]
  refine ⟨_, _, rfl, ?_, AV.grounds_rels _ _ hb hbr⟩
  simp only [AV.rel]
  exact ⟨by omega, A, cc, rfl, hnc, hA, (fun h => by cases h), by simp⟩
end
end Go.Proofs.YtbjealobiblabaaGreatDoor

namespace Go.Proofs.YtbjealobiblabaaGreatDoor
open Go Go.RowKit
set_option maxRecDepth 100000
abbrev L_sortR (l : List KV) : List (FuncId × Spec) := [(50, e_sortR l)]
theorem hE_sortR (l : List KV) : ESound Tryz.prog (envOf (L_sortR l)) := env_cons (ok_sortR l) env_nil
theorem rows_mit (es : List KV) (seen : List Nat) (x : AV) (b : Nat × Option ABlk) : mitN (hd Tryz.f30 0) (rT x) ⟨rI es ++ [rW es seen, b], 9⟩ = some (es.length, seen, es.length) := by kernel_rfl
theorem rows_mit0 (es : List KV) (seen : List Nat) (x : AV) : mitN (hd Tryz.f30 0) (rT x) ⟨rI es ++ [rW es seen], 9⟩ = some (es.length, seen, es.length) := by kernel_rfl
theorem rows_round' (l0 es : List KV) (l : List KV) (seen : List Nat) (j n : Nat) : NX_ Tryz.prog (L_sortR l0) Tryz.f30 rC [] 99 [2] (some j) (hd Tryz.f30 0) (rT (.sl true 3 5 0 1 n none)) ⟨rI es ++ [rW es seen, rR 3 l], 9⟩ =
    some (.head (hd Tryz.f30 0) (rT (.sl true 12 5 0 1 (n + 1) none)) ⟨rI es ++ [rW es (j :: seen), (12, some ⟨true, true, .rows [.ints .i64 (List.take n (l.map kA) ++ [kA (es.getD j ([], []))]), .ints .i64 (List.take n (l.map kB) ++ [kB (es.getD j ([], []))]), .ints .i64 (List.take n (l.map kC) ++ [kC (es.getD j ([], []))]), .ints .i64 (List.take n (l.map kD) ++ [kD (es.getD j ([], []))]), .ints .i64 (List.take n (l.map kE) ++ [kE (es.getD j ([], []))])]⟩)], 19⟩
      (conj [Nat.beq es.length es.length, Nat.blt j es.length, decide (0 < n), decide ((n + 1) * 40 ≤ 140737488355328), decide (n ≤ (l.map kA).length), decide (n ≤ (l.map kB).length), decide (n ≤ (l.map kC).length), decide (n ≤ (l.map kD).length), decide (n ≤ (l.map kE).length)])) := by kernel_rfl
theorem rows_first' (l0 es : List KV) (j : Nat) : NX_ Tryz.prog (L_sortR l0) Tryz.f30 rC [] 99 [2] (some j) (hd Tryz.f30 0) (rT (.val (.slice none 0 0))) ⟨rI es ++ [rW es []], 9⟩ =
    some (.head (hd Tryz.f30 0) (rT (.sl true 12 5 0 1 1 none)) ⟨rI es ++ [rW es [j], rR 12 [es.getD j ([], [])]], 19⟩ (conj [Nat.beq es.length es.length, Nat.blt j es.length])) := by kernel_rfl
theorem take_map {f : KV → Int} {l : List KV} {n : Nat} (h : n = l.length) (x : KV) : List.take n (l.map f) ++ [f x] = (l ++ [x]).map f := by
  rw [List.take_of_length_le (by rw [List.length_map]; omega), List.map_append]; rfl
theorem rows_loop (es : List KV) (hk : KD es) (hn : es.length ≤ 4096) : ∀ (j : Nat) (seen : List Nat), seen.Nodup → (∀ x ∈ seen, x < es.length) → 0 < seen.length → seen.length + j = es.length →
    Gives_ Tryz.prog Tryz.f30 2 ⟨hd Tryz.f30 0, rT (.sl true 3 5 0 1 seen.length none), ⟨rI es ++ [rW es seen, rR 3 (seenL es seen)], 9⟩⟩ (.sl true 3 5 0 1 es.length none) ⟨[(3, some ⟨true, false, .rows (colsF fs5 (sortK es))⟩)], 99⟩
  | 0, seen, h1, h2, h3, h4 => by
    refine next_gives' (hE_sortR (seenL es seen)) (rows_mit es seen _ _) fun jo hv id ops k hx => ?_
    cases jo with
    | some j => exact absurd (seen_full h1 h2 (by omega) hv.1) hv.2
    | none =>
      have p := seenL_perm h1 h2 (by omega)
      have h := rows_end es (seenL es seen) seen seen.length
      rw [← sortK_eq hk p, decide_eq_true (hk.perm p), seenL_len, decide_eq_true (rfl : seen.length = seen.length), decide_eq_true (rfl : (seenL es seen).map kA = _), decide_eq_true (rfl : (seenL es seen).map kB = _), decide_eq_true (rfl : (seenL es seen).map kC = _), decide_eq_true (rfl : (seenL es seen).map kD = _), decide_eq_true (rfl : (seenL es seen).map kE = _),
        Nat.ble_eq_true_of_le (show seen.length ≤ 4096 by omega), show Nat.blt 0 seen.length = true from Nat.ble_eq_true_of_le h3] at h
      have e : es.length = seen.length := by omega
      rw [e]
      exact NX_ret (hE_sortR _) mixedP rfl hx h rfl
  | j + 1, seen, h1, h2, h3, h4 => by
    refine next_gives' (hE_sortR (seenL es seen)) (rows_mit es seen _ _) fun jo hv id ops k hx => ?_
    cases jo with
    | none => have := seen_all hv; omega
    | some i =>
      obtain ⟨hi, hni⟩ := hv
      have h := rows_round' (seenL es seen) es (seenL es seen) seen i seen.length
      have hl := seenL_len es seen
      rw [take_map hl.symm, take_map hl.symm, take_map hl.symm, take_map hl.symm, take_map hl.symm, ← seenL_cons, List.length_map, List.length_map, List.length_map, List.length_map, List.length_map, hl, Nat.beq_refl, show Nat.blt i es.length = true from Nat.ble_eq_true_of_le hi, decide_eq_true h3, decide_eq_true (show (seen.length + 1) * 40 ≤ 140737488355328 by omega), decide_eq_true (Nat.le_refl seen.length)] at h
      refine NX_head (hE_sortR _) mixedP rfl hx h rfl (Goes.gives (Goes.ren (P := Tryz.prog) (B := 2) (σ := [(0, 0), (1, 1), (2, 2), (3, 12)]) (nx := 9) rfl) ?_)
      exact rows_loop es hk hn j (i :: seen) (List.nodup_cons.2 ⟨hni, h1⟩) (fun x hx => by
        rcases List.mem_cons.1 hx with rfl | hx
        · exact hi
        · exact h2 x hx) (Nat.succ_pos _) (by simp only [List.length_cons]; omega)
theorem rows_none' : NX_ Tryz.prog (L_sortR []) Tryz.f30 rC [] 99 [2] none (hd Tryz.f30 0) (rT (.val (.slice none 0 0))) ⟨rI [] ++ [rW [] []], 9⟩ =
    some (.ret (.val (.slice none 0 0)) ⟨[], 99⟩ true) := by kernel_rfl
theorem rows_go (es : List KV) : Goes Tryz.prog 2 (enterA Tryz.f30 (bodyOf Tryz.f30) [.ptr 0 1 0 0] ⟨rI es, 2⟩) ⟨hd Tryz.f30 0, rT (.val (.slice none 0 0)), ⟨rI es ++ [rW es []], 9⟩⟩ :=
  (FO_head (f := Tryz.f30) (c := bodyOf Tryz.f30) (m := ⟨rI es, 2⟩) env_nil mixedP rfl rfl (rows_in es) rfl).trans (Goes.ren (P := Tryz.prog) (B := 2) (σ := [(0, 0), (1, 1), (2, 2)]) (nx := 9) rfl)
theorem rows_some (es : List KV) (hk : KD es) (hn : es.length ≤ 4096) (hp : 0 < es.length) : Gives_ Tryz.prog Tryz.f30 2 (enterA Tryz.f30 (bodyOf Tryz.f30) [.ptr 0 1 0 0] ⟨rI es, 2⟩) (.sl true 3 5 0 1 es.length none) ⟨[(3, some ⟨true, false, .rows (colsF fs5 (sortK es))⟩)], 99⟩ := by
  refine Goes.gives (rows_go es) (next_gives' (hE_sortR []) (rows_mit0 es [] _) fun jo hv id ops k hx => ?_)
  cases jo with
  | none => have := hv 0 hp; cases this
  | some i =>
    have h := rows_first' [] es i
    rw [Nat.beq_refl, show Nat.blt i es.length = true from Nat.ble_eq_true_of_le hv.1] at h
    refine NX_head (hE_sortR _) mixedP rfl hx h rfl (Goes.gives (Goes.ren (P := Tryz.prog) (B := 2) (σ := [(0, 0), (1, 1), (2, 2), (3, 12)]) (nx := 9) rfl) ?_)
    exact rows_loop es hk hn (es.length - 1) [i] (by simp) (fun x hx => by rw [List.mem_singleton.1 hx]; exact hv.1) (Nat.succ_pos _) (by simp only [List.length_singleton]; omega)
theorem rows_nil : Gives_ Tryz.prog Tryz.f30 2 (enterA Tryz.f30 (bodyOf Tryz.f30) [.ptr 0 1 0 0] ⟨rI [], 2⟩) (.val (.slice none 0 0)) ⟨[], 99⟩ := by
  refine Goes.gives (rows_go []) (next_gives' (hE_sortR []) (rows_mit0 [] [] _) fun jo hv id ops k hx => ?_)
  cases jo with
  | none => exact NX_ret (hE_sortR _) mixedP rfl hx rows_none' rfl
  | some i => exact absurd hv.1 (by simp)
theorem rows_nilp : F_ Tryz.prog [] Tryz.f30 [] [] 99 [.val (.pointer none)] noMem = some (.ret (.val (.slice none 0 0)) ⟨[], 99⟩ true) := by kernel_rfl
def e_rows : Spec := fun m args => match args with
  | [.val (.pointer none)] => some (.val (.slice none 0 0), none, [])
  | [.ptr l 1 0 0] => match look m.bl l with
    | some ⟨_, _, .cells [.mp lm]⟩ => match look m.bl lm with
      | some ⟨_, _, .obj (.mpo 3 2 es)⟩ => some (.sl false m.nx 5 0 1 es.length none, some ⟨(m.nx, some ⟨false, false, .rows (colsF fs5 (sortK es))⟩) :: m.bl, m.nx + 1⟩, [decide (KD es), Nat.ble es.length 4096])
      | _ => none
    | _ => none
  | _ => none
theorem ok_rows : SpecOk Tryz.prog 30 e_rows := fun m args v mo bs h hb => by
  unfold e_rows at h
  split at h
  · cases h
    exact pure_fn (c := bodyOf Tryz.f30) env_nil mixedP (fun xs w => Tryz.call30 xs w) Tryz.func30 rfl rows_nilp rfl rfl
  · rename_i l
    split at h <;> try cases h
    rename_i wr op lm hl
    split at h <;> cases h
    rename_i _ wr' op' es hlm
    simp only [List.all_cons, List.all_nil, id, Bool.and_true, Bool.and_eq_true, decide_eq_true_eq] at hb
    obtain ⟨hk, hn⟩ := hb
    have hn := Nat.le_of_ble_eq_true hn
    refine lift_list (m1 := ⟨rI es, 2⟩) (args1 := [.ptr 0 1 0 0]) rfl rfl rfl (sim_m (br := []) hl hlm rfl) ?_
    by_cases hp : 0 < es.length
    · exact .inr ⟨_, _, _, _, _, _, rfl, says_self rfl, fsound (c := bodyOf Tryz.f30) (fun xs w => Tryz.call30 xs w) Tryz.func30 rfl (rows_some es hk hn hp)⟩
    · have h0 : es = [] := List.length_eq_zero_iff.1 (by omega)
      subst h0
      refine .inl ⟨rfl, fun r c' a ha => ?_, _, fsound (c := bodyOf Tryz.f30) (fun xs w => Tryz.call30 xs w) Tryz.func30 rfl rows_nil⟩
      match c', ha with
      | 0, ha => simp [Cont.at, Col.at, colsF, sortK] at ha
      | 1, ha => simp [Cont.at, Col.at, colsF, sortK] at ha
      | 2, ha => simp [Cont.at, Col.at, colsF, sortK] at ha
      | 3, ha => simp [Cont.at, Col.at, colsF, sortK] at ha
      | 4, ha => simp [Cont.at, Col.at, colsF, sortK] at ha
      | c' + 5, ha => cases ha
  · cases h
end Go.Proofs.YtbjealobiblabaaGreatDoor

namespace Go.Proofs.YtbjealobiblabaaGreatDoor
open Go Go.Shelf
def Tryz.lays129_ren : Ren :=
{
  f := fun x =>
    match x with
    | 129 => 87
    | n => n,
  t := fun x =>
    match x with
    | 53 => 120
    | 3 => 3
    | 4 => 4
    | 46 => 128
    | 5 => 5
    | 9 => 9
    | n => n,
  g := fun x => x }
theorem Tryz.lays129 : Lays.n129 Tryz.prog Tryz.lays129_ren :=
{ mixed := by kernel_rfl, f129 := (Tryz.func87).trans (congrArg some (by kernel_rfl)),
  t3 := Tryz.underlying3, a3 := Tryz.isAgg3, z3 := Tryz.sizeOf3, v3 := Tryz.zeroValue3, t4 := Tryz.underlying4,
  a4 := Tryz.isAgg4, z4 := Tryz.sizeOf4, v4 := Tryz.zeroValue4, t5 := Tryz.underlying5, a5 := Tryz.isAgg5,
  z5 := Tryz.sizeOf5, v5 := Tryz.zeroValue5, t9 := Tryz.underlying9, a9 := Tryz.isAgg9, z9 := Tryz.sizeOf9,
  v9 := Tryz.zeroValue9, t46 := Tryz.underlying128, a46 := Tryz.isAgg128, z46 := Tryz.sizeOf128,
  v46 := Tryz.zeroValue128, t53 := Tryz.underlying120, a53 := Tryz.isAgg120, z53 := Tryz.sizeOf120,
  v53 := Tryz.zeroValue120 }
def Tryz.lays125_ren : Ren :=
{
  f := fun x =>
    match x with
    | 125 => 68
    | 128 => 86
    | 129 => 87
    | n => n,
  t := fun x =>
    match x with
    | 46 => 128
    | 3 => 3
    | 51 => 149
    | 53 => 120
    | 4 => 4
    | 5 => 5
    | 9 => 9
    | n => n,
  g := fun x => x }
theorem Tryz.lays125 : Lays.n125 Tryz.prog Tryz.lays125_ren :=
{ mixed := by kernel_rfl, f125 := (Tryz.func68).trans (congrArg some (by kernel_rfl)),
  f128 := (Tryz.func86).trans (congrArg some (by kernel_rfl)),
  f129 := (Tryz.func87).trans (congrArg some (by kernel_rfl)), t3 := Tryz.underlying3,
  a3 := Tryz.isAgg3, z3 := Tryz.sizeOf3, v3 := Tryz.zeroValue3, t4 := Tryz.underlying4, a4 := Tryz.isAgg4,
  z4 := Tryz.sizeOf4, v4 := Tryz.zeroValue4, t5 := Tryz.underlying5, a5 := Tryz.isAgg5, z5 := Tryz.sizeOf5,
  v5 := Tryz.zeroValue5, t9 := Tryz.underlying9, a9 := Tryz.isAgg9, z9 := Tryz.sizeOf9, v9 := Tryz.zeroValue9,
  t46 := Tryz.underlying128, a46 := Tryz.isAgg128, z46 := Tryz.sizeOf128, v46 := Tryz.zeroValue128,
  t51 := Tryz.underlying149, a51 := Tryz.isAgg149, z51 := Tryz.sizeOf149, v51 := Tryz.zeroValue149,
  t53 := Tryz.underlying120, a53 := Tryz.isAgg120, z53 := Tryz.sizeOf120, v53 := Tryz.zeroValue120 }
end Go.Proofs.YtbjealobiblabaaGreatDoor

namespace Go.Proofs.YtbjealobiblabaaGreatDoor
open Go Go.RowKit Go.Shelf
def e_len : Spec := fun _ args => match args with
  | [.val (.int .u64 x)] => some (vi (Lib.bitLen x.toNat), none, [decide (0 ≤ x), decide (x ≤ 18446744073709551615)])
  | _ => none
theorem ok_len64 : SpecOk Tryz.prog 87 e_len := fun m args v mo bs h hb => by
  unfold e_len at h
  split at h
  · cases h
    simp at hb
    exact calls_int (fun xs w => Tryz.call87 xs w) fun w => Any.bits_Len64 Tryz.lays129 _ w hb.1 hb.2
  · cases h
theorem ok_len : SpecOk Tryz.prog 68 e_len := fun m args v mo bs h hb => by
  unfold e_len at h
  split at h
  · cases h
    simp at hb
    exact calls_int (fun xs w => Tryz.call68 xs w) fun w => Any.bits_Len Tryz.lays125 _ w hb.1 hb.2
  · cases h
def L_len : List (FuncId × Spec) := [(87, e_len), (68, e_len)]
theorem hE_len : ESound Tryz.prog (envOf L_len) := env_cons ok_len64 (env_cons ok_len env_nil)
end Go.Proofs.YtbjealobiblabaaGreatDoor

namespace Go.Proofs.YtbjealobiblabaaGreatDoor
open Go Go.RowKit
def header_within_0 (n_ : Int) (most_ : Int) : Bool := bif decide (0 ≤ n_) then decide (n_ ≤ most_) else false
def s_header_within (n_ : Int) (most_ : Int) : AV := AV.val (Value.bool (header_within_0 n_ most_))
theorem t_header_within (n_ : Int) (most_ : Int) : F_ Tryz.prog L_len Tryz.f48 [] [] 99 [AV.val (Value.int IntKind.i64 n_), AV.val (Value.int IntKind.i64 most_)] noMem = some (.ret (s_header_within n_ most_) { bl := [], nx := 99 } true) := by kernel_rfl
def e_header_within : Spec := fun _ args => match args with
  | [.val (.int .i64 n_), .val (.int .i64 most_)] => some (s_header_within n_ most_, none, [])
  | _ => none
theorem ok_header_within : SpecOk Tryz.prog 48 e_header_within := fun m args v mo bs h hb => by
  unfold e_header_within at h
  split at h
  · cases h
    exact pure_fn (c := bodyOf Tryz.f48) hE_len mixedP (fun xs w => Tryz.call48 xs w) Tryz.func48 rfl (t_header_within _ _) rfl rfl
  · cases h
def L_header_within : List (FuncId × Spec) := (48, e_header_within) :: L_len
theorem hE_header_within : ESound Tryz.prog (envOf L_header_within) := env_cons ok_header_within hE_len
def header_Check_0 (h_0 : Int) (h_1 : Int) (h_2 : Int) (h_3 : Int) (h_4 : Bool) : Int := bif bif !header_within_0 h_0 4095 then true else !header_within_0 h_1 4095 then 20 else bif !header_within_0 h_2 31 then 21 else bif !header_within_0 h_3 7 then 2 else 0
def s_header_Check (h_0 : Int) (h_1 : Int) (h_2 : Int) (h_3 : Int) (h_4 : Bool) : AV := AV.val (Value.int IntKind.i64 (header_Check_0 h_0 h_1 h_2 h_3 h_4))
theorem t_header_Check (h_0 : Int) (h_1 : Int) (h_2 : Int) (h_3 : Int) (h_4 : Bool) : F_ Tryz.prog L_header_within Tryz.f26 [] [] 99 [AV.agg [AV.val (Value.int IntKind.i64 h_0), AV.val (Value.int IntKind.i64 h_1), AV.val (Value.int IntKind.i64 h_2), AV.val (Value.int IntKind.i64 h_3), AV.val (Value.bool h_4)]] noMem = some (.ret (s_header_Check h_0 h_1 h_2 h_3 h_4) { bl := [], nx := 99 } true) := by
  have h : F_ Tryz.prog L_header_within Tryz.f26 [] [] 99 [AV.agg [AV.val (Value.int IntKind.i64 h_0), AV.val (Value.int IntKind.i64 h_1), AV.val (Value.int IntKind.i64 h_2), AV.val (Value.int IntKind.i64 h_3), AV.val (Value.bool h_4)]] noMem = bif bif !header_within_0 h_0 4095 then true else !header_within_0 h_1 4095 then some (Fin_.ret (AV.val (Value.int IntKind.i64 20)) { bl := [], nx := 99 } true) else bif !header_within_0 h_2 31 then some (Fin_.ret (AV.val (Value.int IntKind.i64 21)) { bl := [], nx := 99 } true) else bif !header_within_0 h_3 7 then some (Fin_.ret (AV.val (Value.int IntKind.i64 2)) { bl := [], nx := 99 } true) else some (Fin_.ret (AV.val (Value.int IntKind.i64 0)) { bl := [], nx := 99 } true) := by kernel_rfl
  rw [h]
  clear h
  unfold s_header_Check header_Check_0
  generalize (bif !header_within_0 h_0 4095 then true else !header_within_0 h_1 4095) = b0_
  generalize (!header_within_0 h_3 7) = b1_
  generalize (!header_within_0 h_2 31) = b2_
  cases b0_
  ·
    cases b2_
    ·
      cases b1_
      ·
        rfl
      ·
        rfl
    ·
      rfl
  ·
    rfl
def e_header_Check : Spec := fun _ args => match args with
  | [.agg [.val (.int .i64 h_0), .val (.int .i64 h_1), .val (.int .i64 h_2), .val (.int .i64 h_3), .val (.bool h_4)]] => some (s_header_Check h_0 h_1 h_2 h_3 h_4, none, [])
  | _ => none
theorem ok_header_Check : SpecOk Tryz.prog 26 e_header_Check := fun m args v mo bs h hb => by
  unfold e_header_Check at h
  split at h
  · cases h
    exact pure_fn (c := bodyOf Tryz.f26) hE_header_within mixedP (fun xs w => Tryz.call26 xs w) Tryz.func26 rfl (t_header_Check _ _ _ _ _) rfl rfl
  · cases h
def L_header_Check : List (FuncId × Spec) := (26, e_header_Check) :: L_header_within
theorem hE_header_Check : ESound Tryz.prog (envOf L_header_Check) := env_cons ok_header_Check hE_header_within
def header_Words_0 (h_0 : Int) (h_1 : Int) (h_2 : Int) (h_3 : Int) (h_4 : Bool) : Int := IntKind.i64.wrap (IntKind.i64.wrap (1 + h_0) + h_1)
def s_header_Words (h_0 : Int) (h_1 : Int) (h_2 : Int) (h_3 : Int) (h_4 : Bool) : AV := AV.val (Value.int IntKind.i64 (header_Words_0 h_0 h_1 h_2 h_3 h_4))
theorem t_header_Words (h_0 : Int) (h_1 : Int) (h_2 : Int) (h_3 : Int) (h_4 : Bool) : F_ Tryz.prog L_header_Check Tryz.f29 [] [] 99 [AV.agg [AV.val (Value.int IntKind.i64 h_0), AV.val (Value.int IntKind.i64 h_1), AV.val (Value.int IntKind.i64 h_2), AV.val (Value.int IntKind.i64 h_3), AV.val (Value.bool h_4)]] noMem = some (.ret (s_header_Words h_0 h_1 h_2 h_3 h_4) { bl := [], nx := 99 } true) := by kernel_rfl
def e_header_Words : Spec := fun _ args => match args with
  | [.agg [.val (.int .i64 h_0), .val (.int .i64 h_1), .val (.int .i64 h_2), .val (.int .i64 h_3), .val (.bool h_4)]] => some (s_header_Words h_0 h_1 h_2 h_3 h_4, none, [])
  | _ => none
theorem ok_header_Words : SpecOk Tryz.prog 29 e_header_Words := fun m args v mo bs h hb => by
  unfold e_header_Words at h
  split at h
  · cases h
    exact pure_fn (c := bodyOf Tryz.f29) hE_header_Check mixedP (fun xs w => Tryz.call29 xs w) Tryz.func29 rfl (t_header_Words _ _ _ _ _) rfl rfl
  · cases h
def L_header_Words : List (FuncId × Spec) := (29, e_header_Words) :: L_header_Check
theorem hE_header_Words : ESound Tryz.prog (envOf L_header_Words) := env_cons ok_header_Words hE_header_Check
def shape_Right_0 (s_0 : Int) (s_1 : Int) : Bool := header_Check_0 s_0 s_1 0 0 false == 0
def s_shape_Right (s_0 : Int) (s_1 : Int) : AV := AV.val (Value.bool (shape_Right_0 s_0 s_1))
theorem t_shape_Right (s_0 : Int) (s_1 : Int) : F_ Tryz.prog L_header_Words Tryz.f77 [] [] 99 [AV.agg [AV.val (Value.int IntKind.i64 s_0), AV.val (Value.int IntKind.i64 s_1)]] noMem = some (.ret (s_shape_Right s_0 s_1) { bl := [], nx := 99 } true) := by kernel_rfl
def e_shape_Right : Spec := fun _ args => match args with
  | [.agg [.val (.int .i64 s_0), .val (.int .i64 s_1)]] => some (s_shape_Right s_0 s_1, none, [])
  | _ => none
theorem ok_shape_Right : SpecOk Tryz.prog 77 e_shape_Right := fun m args v mo bs h hb => by
  unfold e_shape_Right at h
  split at h
  · cases h
    exact pure_fn (c := bodyOf Tryz.f77) hE_header_Words mixedP (fun xs w => Tryz.call77 xs w) Tryz.func77 rfl (t_shape_Right _ _) rfl rfl
  · cases h
def L_shape_Right : List (FuncId × Spec) := (77, e_shape_Right) :: L_header_Words
theorem hE_shape_Right : ESound Tryz.prog (envOf L_shape_Right) := env_cons ok_shape_Right hE_header_Words
def shape_Words_0 (s_0 : Int) (s_1 : Int) : Int := bif !shape_Right_0 s_0 s_1 then 0 else header_Words_0 s_0 s_1 0 0 false
def s_shape_Words (s_0 : Int) (s_1 : Int) : AV := AV.val (Value.int IntKind.i64 (shape_Words_0 s_0 s_1))
theorem t_shape_Words (s_0 : Int) (s_1 : Int) : F_ Tryz.prog L_shape_Right Tryz.f66 [] [] 99 [AV.agg [AV.val (Value.int IntKind.i64 s_0), AV.val (Value.int IntKind.i64 s_1)]] noMem = some (.ret (s_shape_Words s_0 s_1) { bl := [], nx := 99 } true) := by
  have h : F_ Tryz.prog L_shape_Right Tryz.f66 [] [] 99 [AV.agg [AV.val (Value.int IntKind.i64 s_0), AV.val (Value.int IntKind.i64 s_1)]] noMem = bif !shape_Right_0 s_0 s_1 then some (Fin_.ret (AV.val (Value.int IntKind.i64 0)) { bl := [], nx := 99 } true) else some (Fin_.ret (AV.val (Value.int IntKind.i64 (header_Words_0 s_0 s_1 0 0 false))) { bl := [], nx := 99 } true) := by kernel_rfl
  rw [h]
  clear h
  unfold s_shape_Words shape_Words_0
  generalize (!shape_Right_0 s_0 s_1) = b0_
  cases b0_
  ·
    rfl
  ·
    rfl
def e_shape_Words : Spec := fun _ args => match args with
  | [.agg [.val (.int .i64 s_0), .val (.int .i64 s_1)]] => some (s_shape_Words s_0 s_1, none, [])
  | _ => none
theorem ok_shape_Words : SpecOk Tryz.prog 66 e_shape_Words := fun m args v mo bs h hb => by
  unfold e_shape_Words at h
  split at h
  · cases h
    exact pure_fn (c := bodyOf Tryz.f66) hE_shape_Right mixedP (fun xs w => Tryz.call66 xs w) Tryz.func66 rfl (t_shape_Words _ _) rfl rfl
  · cases h
def L_shape_Words : List (FuncId × Spec) := (66, e_shape_Words) :: L_shape_Right
theorem hE_shape_Words : ESound Tryz.prog (envOf L_shape_Words) := env_cons ok_shape_Words hE_shape_Right
def class_Of_0 (words_ : Int) : Int := bif decide (words_ ≤ 1) then 0 else min (Int.ofNat (Lib.bitLen (IntKind.u64.wrap (IntKind.i64.wrap (words_ - 1))).toNat)) 13
def s_class_Of (words_ : Int) : AV := AV.val (Value.int IntKind.i64 (class_Of_0 words_))
def c_class_Of (words_ : Int) : Bool := bif decide (words_ ≤ 1) then true else bif decide (0 ≤ IntKind.u64.wrap (IntKind.i64.wrap (words_ - 1))) then bif decide (IntKind.u64.wrap (IntKind.i64.wrap (words_ - 1)) ≤ 18446744073709551615) then true else false else false
theorem t_class_Of (words_ : Int) : c_class_Of words_ = true → F_ Tryz.prog L_shape_Words Tryz.f65 [] [] 99 [AV.val (Value.int IntKind.i64 words_)] noMem = some (.ret (s_class_Of words_) { bl := [], nx := 99 } true) := by
  have h : F_ Tryz.prog L_shape_Words Tryz.f65 [] [] 99 [AV.val (Value.int IntKind.i64 words_)] noMem = bif decide (words_ ≤ 1) then some (Fin_.ret (AV.val (Value.int IntKind.i64 0)) { bl := [], nx := 99 } true) else some (Fin_.ret (AV.val (Value.int IntKind.i64 (min (Int.ofNat (Lib.bitLen (IntKind.u64.wrap (IntKind.i64.wrap (words_ - 1))).toNat)) 13))) { bl := [], nx := 99 } (bif decide (0 ≤ IntKind.u64.wrap (IntKind.i64.wrap (words_ - 1))) then bif decide (IntKind.u64.wrap (IntKind.i64.wrap (words_ - 1)) ≤ 18446744073709551615) then true else false else false)) := by kernel_rfl
  rw [h]
  clear h
  unfold s_class_Of class_Of_0 c_class_Of
  generalize (decide (words_ ≤ 1)) = b0_
  cases b0_
  ·
    first | rfl | (intro h_; cases h_; done) | (intro _; rfl) | (intro h_; simp only [cond_true, cond_false] at h_ ⊢; rw [h_])
  ·
    first | rfl | (intro h_; cases h_; done) | (intro _; rfl) | (intro h_; simp only [cond_true, cond_false] at h_ ⊢; rw [h_])
def e_class_Of : Spec := fun _ args => match args with
  | [.val (.int .i64 words_)] => some (s_class_Of words_, none, [c_class_Of words_])
  | _ => none
theorem ok_class_Of : SpecOk Tryz.prog 65 e_class_Of := fun m args v mo bs h hb => by
  unfold e_class_Of at h
  split at h
  · cases h
    exact pure_fn (c := bodyOf Tryz.f65) hE_shape_Words mixedP (fun xs w => Tryz.call65 xs w) Tryz.func65 rfl (t_class_Of _ (by simpa using hb)) rfl rfl
  · cases h
def L_class_Of : List (FuncId × Spec) := (65, e_class_Of) :: L_shape_Words
theorem hE_class_Of : ESound Tryz.prog (envOf L_class_Of) := env_cons ok_class_Of hE_shape_Words
def shape_Class_0 (s_0 : Int) (s_1 : Int) : Int := class_Of_0 (shape_Words_0 s_0 s_1)
def s_shape_Class (s_0 : Int) (s_1 : Int) : AV := AV.val (Value.int IntKind.i64 (shape_Class_0 s_0 s_1))
def c_shape_Class (s_0 : Int) (s_1 : Int) : Bool := bif c_class_Of (shape_Words_0 s_0 s_1) then true else false
theorem t_shape_Class (s_0 : Int) (s_1 : Int) : c_shape_Class s_0 s_1 = true → F_ Tryz.prog L_class_Of Tryz.f49 [] [] 99 [AV.agg [AV.val (Value.int IntKind.i64 s_0), AV.val (Value.int IntKind.i64 s_1)]] noMem = some (.ret (s_shape_Class s_0 s_1) { bl := [], nx := 99 } true) := by
  intro h_
  have h : F_ Tryz.prog L_class_Of Tryz.f49 [] [] 99 [AV.agg [AV.val (Value.int IntKind.i64 s_0), AV.val (Value.int IntKind.i64 s_1)]] noMem = some (.ret (s_shape_Class s_0 s_1) { bl := [], nx := 99 } (c_shape_Class s_0 s_1)) := by kernel_rfl
  rw [h, h_]
def e_shape_Class : Spec := fun _ args => match args with
  | [.agg [.val (.int .i64 s_0), .val (.int .i64 s_1)]] => some (s_shape_Class s_0 s_1, none, [c_shape_Class s_0 s_1])
  | _ => none
theorem ok_shape_Class : SpecOk Tryz.prog 49 e_shape_Class := fun m args v mo bs h hb => by
  unfold e_shape_Class at h
  split at h
  · cases h
    exact pure_fn (c := bodyOf Tryz.f49) hE_class_Of mixedP (fun xs w => Tryz.call49 xs w) Tryz.func49 rfl (t_shape_Class _ _ (by simpa using hb)) rfl rfl
  · cases h
def L_shape_Class : List (FuncId × Spec) := (49, e_shape_Class) :: L_class_Of
theorem hE_shape_Class : ESound Tryz.prog (envOf L_shape_Class) := env_cons ok_shape_Class hE_class_Of
def haymowref12_Check_0 (h_0 : Int) (h_1 : Int) (h_2 : Int) (h_3 : Int) (h_4 : Bool) : Int := bif bif bif bif decide (h_0 < 0) then true else decide (4095 < h_0) then true else decide (h_1 < 0) then true else decide (4095 < h_1) then 20 else bif bif decide (h_2 < 0) then true else decide (31 < h_2) then 21 else bif bif decide (h_3 < 0) then true else decide (7 < h_3) then 2 else 0
def s_haymowref12_Check (h_0 : Int) (h_1 : Int) (h_2 : Int) (h_3 : Int) (h_4 : Bool) : AV := AV.val (Value.int IntKind.i64 (haymowref12_Check_0 h_0 h_1 h_2 h_3 h_4))
theorem t_haymowref12_Check (h_0 : Int) (h_1 : Int) (h_2 : Int) (h_3 : Int) (h_4 : Bool) : F_ Tryz.prog L_shape_Class Tryz.f32 [] [] 99 [AV.agg [AV.val (Value.int IntKind.i64 h_0), AV.val (Value.int IntKind.i64 h_1), AV.val (Value.int IntKind.i64 h_2), AV.val (Value.int IntKind.i64 h_3), AV.val (Value.bool h_4)]] noMem = some (.ret (s_haymowref12_Check h_0 h_1 h_2 h_3 h_4) { bl := [], nx := 99 } true) := by
  have h : F_ Tryz.prog L_shape_Class Tryz.f32 [] [] 99 [AV.agg [AV.val (Value.int IntKind.i64 h_0), AV.val (Value.int IntKind.i64 h_1), AV.val (Value.int IntKind.i64 h_2), AV.val (Value.int IntKind.i64 h_3), AV.val (Value.bool h_4)]] noMem = bif bif bif bif decide (h_0 < 0) then true else decide (4095 < h_0) then true else decide (h_1 < 0) then true else decide (4095 < h_1) then some (Fin_.ret (AV.val (Value.int IntKind.i64 20)) { bl := [], nx := 99 } true) else bif bif decide (h_2 < 0) then true else decide (31 < h_2) then some (Fin_.ret (AV.val (Value.int IntKind.i64 21)) { bl := [], nx := 99 } true) else bif bif decide (h_3 < 0) then true else decide (7 < h_3) then some (Fin_.ret (AV.val (Value.int IntKind.i64 2)) { bl := [], nx := 99 } true) else some (Fin_.ret (AV.val (Value.int IntKind.i64 0)) { bl := [], nx := 99 } true) := by kernel_rfl
  rw [h]
  clear h
  unfold s_haymowref12_Check haymowref12_Check_0
  generalize (bif bif bif decide (h_0 < 0) then true else decide (4095 < h_0) then true else decide (h_1 < 0) then true else decide (4095 < h_1)) = b0_
  generalize (bif decide (h_3 < 0) then true else decide (7 < h_3)) = b1_
  generalize (bif decide (h_2 < 0) then true else decide (31 < h_2)) = b2_
  cases b0_
  ·
    cases b2_
    ·
      cases b1_
      ·
        rfl
      ·
        rfl
    ·
      rfl
  ·
    rfl
def e_haymowref12_Check : Spec := fun _ args => match args with
  | [.agg [.val (.int .i64 h_0), .val (.int .i64 h_1), .val (.int .i64 h_2), .val (.int .i64 h_3), .val (.bool h_4)]] => some (s_haymowref12_Check h_0 h_1 h_2 h_3 h_4, none, [])
  | _ => none
theorem ok_haymowref12_Check : SpecOk Tryz.prog 32 e_haymowref12_Check := fun m args v mo bs h hb => by
  unfold e_haymowref12_Check at h
  split at h
  · cases h
    exact pure_fn (c := bodyOf Tryz.f32) hE_shape_Class mixedP (fun xs w => Tryz.call32 xs w) Tryz.func32 rfl (t_haymowref12_Check _ _ _ _ _) rfl rfl
  · cases h
def L_haymowref12_Check : List (FuncId × Spec) := (32, e_haymowref12_Check) :: L_shape_Class
theorem hE_haymowref12_Check : ESound Tryz.prog (envOf L_haymowref12_Check) := env_cons ok_haymowref12_Check hE_shape_Class
def haymowref13_Right_0 (s_0 : Int) (s_1 : Int) : Bool := bif bif bif decide (0 ≤ s_0) then decide (s_0 < 4096) else false then decide (0 ≤ s_1) else false then decide (s_1 < 4096) else false
def s_haymowref13_Right (s_0 : Int) (s_1 : Int) : AV := AV.val (Value.bool (haymowref13_Right_0 s_0 s_1))
theorem t_haymowref13_Right (s_0 : Int) (s_1 : Int) : F_ Tryz.prog L_haymowref12_Check Tryz.f54 [] [] 99 [AV.agg [AV.val (Value.int IntKind.i64 s_0), AV.val (Value.int IntKind.i64 s_1)]] noMem = some (.ret (s_haymowref13_Right s_0 s_1) { bl := [], nx := 99 } true) := by kernel_rfl
def e_haymowref13_Right : Spec := fun _ args => match args with
  | [.agg [.val (.int .i64 s_0), .val (.int .i64 s_1)]] => some (s_haymowref13_Right s_0 s_1, none, [])
  | _ => none
theorem ok_haymowref13_Right : SpecOk Tryz.prog 54 e_haymowref13_Right := fun m args v mo bs h hb => by
  unfold e_haymowref13_Right at h
  split at h
  · cases h
    exact pure_fn (c := bodyOf Tryz.f54) hE_haymowref12_Check mixedP (fun xs w => Tryz.call54 xs w) Tryz.func54 rfl (t_haymowref13_Right _ _) rfl rfl
  · cases h
def L_haymowref13_Right : List (FuncId × Spec) := (54, e_haymowref13_Right) :: L_haymowref12_Check
theorem hE_haymowref13_Right : ESound Tryz.prog (envOf L_haymowref13_Right) := env_cons ok_haymowref13_Right hE_haymowref12_Check
def haymowref13_Words_0 (s_0 : Int) (s_1 : Int) : Int := bif !haymowref13_Right_0 s_0 s_1 then 0 else IntKind.i64.wrap (IntKind.i64.wrap (1 + s_0) + s_1)
def s_haymowref13_Words (s_0 : Int) (s_1 : Int) : AV := AV.val (Value.int IntKind.i64 (haymowref13_Words_0 s_0 s_1))
theorem t_haymowref13_Words (s_0 : Int) (s_1 : Int) : F_ Tryz.prog L_haymowref13_Right Tryz.f31 [] [] 99 [AV.agg [AV.val (Value.int IntKind.i64 s_0), AV.val (Value.int IntKind.i64 s_1)]] noMem = some (.ret (s_haymowref13_Words s_0 s_1) { bl := [], nx := 99 } true) := by
  have h : F_ Tryz.prog L_haymowref13_Right Tryz.f31 [] [] 99 [AV.agg [AV.val (Value.int IntKind.i64 s_0), AV.val (Value.int IntKind.i64 s_1)]] noMem = bif !haymowref13_Right_0 s_0 s_1 then some (Fin_.ret (AV.val (Value.int IntKind.i64 0)) { bl := [], nx := 99 } true) else some (Fin_.ret (AV.val (Value.int IntKind.i64 (IntKind.i64.wrap (IntKind.i64.wrap (1 + s_0) + s_1)))) { bl := [], nx := 99 } true) := by kernel_rfl
  rw [h]
  clear h
  unfold s_haymowref13_Words haymowref13_Words_0
  generalize (!haymowref13_Right_0 s_0 s_1) = b0_
  cases b0_
  ·
    rfl
  ·
    rfl
def e_haymowref13_Words : Spec := fun _ args => match args with
  | [.agg [.val (.int .i64 s_0), .val (.int .i64 s_1)]] => some (s_haymowref13_Words s_0 s_1, none, [])
  | _ => none
theorem ok_haymowref13_Words : SpecOk Tryz.prog 31 e_haymowref13_Words := fun m args v mo bs h hb => by
  unfold e_haymowref13_Words at h
  split at h
  · cases h
    exact pure_fn (c := bodyOf Tryz.f31) hE_haymowref13_Right mixedP (fun xs w => Tryz.call31 xs w) Tryz.func31 rfl (t_haymowref13_Words _ _) rfl rfl
  · cases h
def L_haymowref13_Words : List (FuncId × Spec) := (31, e_haymowref13_Words) :: L_haymowref13_Right
theorem hE_haymowref13_Words : ESound Tryz.prog (envOf L_haymowref13_Words) := env_cons ok_haymowref13_Words hE_haymowref13_Right
def haymowref04_Of_0 (words_ : Int) : Int := bif decide (1 < words_) then bif decide (2 < words_) then bif decide (4 < words_) then bif decide (8 < words_) then bif decide (16 < words_) then bif decide (32 < words_) then bif decide (64 < words_) then bif decide (128 < words_) then bif decide (256 < words_) then bif decide (512 < words_) then bif decide (1024 < words_) then bif decide (2048 < words_) then bif decide (4096 < words_) then 13 else 12 else 11 else 10 else 9 else 8 else 7 else 6 else 5 else 4 else 3 else 2 else 1 else 0
def s_haymowref04_Of (words_ : Int) : AV := AV.val (Value.int IntKind.i64 (haymowref04_Of_0 words_))
theorem t_haymowref04_Of (words_ : Int) : F_ Tryz.prog L_haymowref13_Words Tryz.f33 [] [] 99 [AV.val (Value.int IntKind.i64 words_)] noMem = some (.ret (s_haymowref04_Of words_) { bl := [], nx := 99 } true) := by
  have h : F_ Tryz.prog L_haymowref13_Words Tryz.f33 [] [] 99 [AV.val (Value.int IntKind.i64 words_)] noMem = bif decide (1 < words_) then bif decide (2 < words_) then bif decide (4 < words_) then bif decide (8 < words_) then bif decide (16 < words_) then bif decide (32 < words_) then bif decide (64 < words_) then bif decide (128 < words_) then bif decide (256 < words_) then bif decide (512 < words_) then bif decide (1024 < words_) then bif decide (2048 < words_) then bif decide (4096 < words_) then some (Fin_.ret (AV.val (Value.int IntKind.i64 13)) { bl := [], nx := 99 } true) else some (Fin_.ret (AV.val (Value.int IntKind.i64 12)) { bl := [], nx := 99 } true) else some (Fin_.ret (AV.val (Value.int IntKind.i64 11)) { bl := [], nx := 99 } true) else some (Fin_.ret (AV.val (Value.int IntKind.i64 10)) { bl := [], nx := 99 } true) else some (Fin_.ret (AV.val (Value.int IntKind.i64 9)) { bl := [], nx := 99 } true) else some (Fin_.ret (AV.val (Value.int IntKind.i64 8)) { bl := [], nx := 99 } true) else some (Fin_.ret (AV.val (Value.int IntKind.i64 7)) { bl := [], nx := 99 } true) else some (Fin_.ret (AV.val (Value.int IntKind.i64 6)) { bl := [], nx := 99 } true) else some (Fin_.ret (AV.val (Value.int IntKind.i64 5)) { bl := [], nx := 99 } true) else some (Fin_.ret (AV.val (Value.int IntKind.i64 4)) { bl := [], nx := 99 } true) else some (Fin_.ret (AV.val (Value.int IntKind.i64 3)) { bl := [], nx := 99 } true) else some (Fin_.ret (AV.val (Value.int IntKind.i64 2)) { bl := [], nx := 99 } true) else some (Fin_.ret (AV.val (Value.int IntKind.i64 1)) { bl := [], nx := 99 } true) else some (Fin_.ret (AV.val (Value.int IntKind.i64 0)) { bl := [], nx := 99 } true) := by kernel_rfl
  rw [h]
  clear h
  unfold s_haymowref04_Of haymowref04_Of_0
  generalize (decide (4096 < words_)) = b0_
  generalize (decide (1 < words_)) = b1_
  generalize (decide (2 < words_)) = b2_
  generalize (decide (4 < words_)) = b3_
  generalize (decide (8 < words_)) = b4_
  generalize (decide (16 < words_)) = b5_
  generalize (decide (32 < words_)) = b6_
  generalize (decide (64 < words_)) = b7_
  generalize (decide (128 < words_)) = b8_
  generalize (decide (256 < words_)) = b9_
  generalize (decide (512 < words_)) = b10_
  generalize (decide (1024 < words_)) = b11_
  generalize (decide (2048 < words_)) = b12_
  cases b1_
  ·
    rfl
  ·
    cases b2_
    ·
      rfl
    ·
      cases b3_
      ·
        rfl
      ·
        cases b4_
        ·
          rfl
        ·
          cases b5_
          ·
            rfl
          ·
            cases b6_
            ·
              rfl
            ·
              cases b7_
              ·
                rfl
              ·
                cases b8_
                ·
                  rfl
                ·
                  cases b9_
                  ·
                    rfl
                  ·
                    cases b10_
                    ·
                      rfl
                    ·
                      cases b11_
                      ·
                        rfl
                      ·
                        cases b12_
                        ·
                          rfl
                        ·
                          cases b0_
                          ·
                            rfl
                          ·
                            rfl
def e_haymowref04_Of : Spec := fun _ args => match args with
  | [.val (.int .i64 words_)] => some (s_haymowref04_Of words_, none, [])
  | _ => none
theorem ok_haymowref04_Of : SpecOk Tryz.prog 33 e_haymowref04_Of := fun m args v mo bs h hb => by
  unfold e_haymowref04_Of at h
  split at h
  · cases h
    exact pure_fn (c := bodyOf Tryz.f33) hE_haymowref13_Words mixedP (fun xs w => Tryz.call33 xs w) Tryz.func33 rfl (t_haymowref04_Of _) rfl rfl
  · cases h
def L_haymowref04_Of : List (FuncId × Spec) := (33, e_haymowref04_Of) :: L_haymowref13_Words
theorem hE_haymowref04_Of : ESound Tryz.prog (envOf L_haymowref04_Of) := env_cons ok_haymowref04_Of hE_haymowref13_Words
def census_Sum_plus_0 (s_0 : Int) (s_1 : Int) (o_0 : Int) (o_1 : Int) : Int := IntKind.i64.wrap (s_0 + o_0)
def census_Sum_plus_1 (s_0 : Int) (s_1 : Int) (o_0 : Int) (o_1 : Int) : Int := IntKind.i64.wrap (s_1 + o_1)
def s_census_Sum_plus (s_0 : Int) (s_1 : Int) (o_0 : Int) (o_1 : Int) : AV := AV.agg [AV.val (Value.int IntKind.i64 (census_Sum_plus_0 s_0 s_1 o_0 o_1)), AV.val (Value.int IntKind.i64 (census_Sum_plus_1 s_0 s_1 o_0 o_1))]
theorem t_census_Sum_plus (s_0 : Int) (s_1 : Int) (o_0 : Int) (o_1 : Int) : F_ Tryz.prog L_haymowref04_Of Tryz.f28 [] [] 99 [AV.agg [AV.val (Value.int IntKind.i64 s_0), AV.val (Value.int IntKind.i64 s_1)], AV.agg [AV.val (Value.int IntKind.i64 o_0), AV.val (Value.int IntKind.i64 o_1)]] noMem = some (.ret (s_census_Sum_plus s_0 s_1 o_0 o_1) { bl := [], nx := 99 } true) := by kernel_rfl
def e_census_Sum_plus : Spec := fun _ args => match args with
  | [.agg [.val (.int .i64 s_0), .val (.int .i64 s_1)], .agg [.val (.int .i64 o_0), .val (.int .i64 o_1)]] => some (s_census_Sum_plus s_0 s_1 o_0 o_1, none, [])
  | _ => none
theorem ok_census_Sum_plus : SpecOk Tryz.prog 28 e_census_Sum_plus := fun m args v mo bs h hb => by
  unfold e_census_Sum_plus at h
  split at h
  · cases h
    exact pure_fn (c := bodyOf Tryz.f28) hE_haymowref04_Of mixedP (fun xs w => Tryz.call28 xs w) Tryz.func28 rfl (t_census_Sum_plus _ _ _ _) rfl rfl
  · cases h
def L_census_Sum_plus : List (FuncId × Spec) := (28, e_census_Sum_plus) :: L_haymowref04_Of
theorem hE_census_Sum_plus : ESound Tryz.prog (envOf L_census_Sum_plus) := env_cons ok_census_Sum_plus hE_haymowref04_Of
end Go.Proofs.YtbjealobiblabaaGreatDoor

namespace Go.Proofs.YtbjealobiblabaaGreatDoor
open Go Go.RowKit
def census_Of_0 (h_0 : Int) (h_1 : Int) (h_2 : Int) (h_3 : Int) (h_4 : Bool) : Int := shape_Class_0 h_0 h_1
def s_census_Of (h_0 : Int) (h_1 : Int) (h_2 : Int) (h_3 : Int) (h_4 : Bool) : AV := AV.agg [AV.val (Value.int IntKind.i64 h_2), AV.val (Value.int IntKind.i64 (census_Of_0 h_0 h_1 h_2 h_3 h_4)), AV.val (Value.int IntKind.i64 h_3)]
def c_census_Of (h_0 : Int) (h_1 : Int) (h_2 : Int) (h_3 : Int) (h_4 : Bool) : Bool := bif c_shape_Class h_0 h_1 then true else false
theorem t_census_Of (h_0 : Int) (h_1 : Int) (h_2 : Int) (h_3 : Int) (h_4 : Bool) : c_census_Of h_0 h_1 h_2 h_3 h_4 = true → F_ Tryz.prog L_census_Sum_plus Tryz.f27 [] [] 99 [AV.agg [AV.val (Value.int IntKind.i64 h_0), AV.val (Value.int IntKind.i64 h_1), AV.val (Value.int IntKind.i64 h_2), AV.val (Value.int IntKind.i64 h_3), AV.val (Value.bool h_4)]] noMem = some (.ret (s_census_Of h_0 h_1 h_2 h_3 h_4) { bl := [], nx := 99 } true) := by
  intro h_
  have h : F_ Tryz.prog L_census_Sum_plus Tryz.f27 [] [] 99 [AV.agg [AV.val (Value.int IntKind.i64 h_0), AV.val (Value.int IntKind.i64 h_1), AV.val (Value.int IntKind.i64 h_2), AV.val (Value.int IntKind.i64 h_3), AV.val (Value.bool h_4)]] noMem = some (.ret (s_census_Of h_0 h_1 h_2 h_3 h_4) { bl := [], nx := 99 } (c_census_Of h_0 h_1 h_2 h_3 h_4)) := by kernel_rfl
  rw [h, h_]
def e_census_Of : Spec := fun _ args => match args with
  | [.agg [.val (.int .i64 h_0), .val (.int .i64 h_1), .val (.int .i64 h_2), .val (.int .i64 h_3), .val (.bool h_4)]] => some (s_census_Of h_0 h_1 h_2 h_3 h_4, none, [c_census_Of h_0 h_1 h_2 h_3 h_4])
  | _ => none
theorem ok_census_Of : SpecOk Tryz.prog 27 e_census_Of := fun m args v mo bs h hb => by
  unfold e_census_Of at h
  split at h
  · cases h
    exact pure_fn (c := bodyOf Tryz.f27) hE_census_Sum_plus mixedP (fun xs w => Tryz.call27 xs w) Tryz.func27 rfl (t_census_Of _ _ _ _ _ (by simpa using hb)) rfl rfl
  · cases h
def L_census_Of : List (FuncId × Spec) := (27, e_census_Of) :: L_census_Sum_plus
theorem hE_census_Of : ESound Tryz.prog (envOf L_census_Of) := env_cons ok_census_Of hE_census_Sum_plus
end Go.Proofs.YtbjealobiblabaaGreatDoor

namespace Go.Proofs.YtbjealobiblabaaGreatDoor
open Go Go.RowKit
abbrev iz (i : Int) : Nat := addN 0 (mulN i.toNat 1)
theorem iz_nat (i : Nat) : iz (i : Int) = i := by unfold iz; rw [addN_eq, mulN_eq, Int.toNat_natCast]; omega
theorem mapD (f : KV → Int) {l : List KV} {i : Nat} (h : i < l.length) : (l.map f).getD (iz (i : Int)) 0 = f l[i] := by
  rw [iz_nat, List.getD_eq_getElem?_getD, List.getElem?_map, List.getElem?_eq_getElem h]; rfl
variable {P : Program}
theorem sortK_len (l : List KV) : (sortK l).length = l.length := (sortK_perm l).length_eq
end Go.Proofs.YtbjealobiblabaaGreatDoor

namespace Go.Proofs.YtbjealobiblabaaGreatDoor
open Go Go.RowKit
theorem wru (x : Int) (h : 0 ≤ x) (h' : x ≤ 18446744073709551615) : IntKind.u64.wrap x = x := IntWalk.u64_in x ⟨h, h'⟩
theorem bl_gt (x k : Nat) (hx : x < 18446744073709551616) : k < Lib.bitLen x ↔ 2 ^ k ≤ x := by
  by_cases h0 : x = 0
  · subst h0
    have h1 : Lib.bitLen 0 = 0 := Lib.bitLenAux_zero 64
    have h2 : 0 < 2 ^ k := Nat.pow_pos (by omega)
    omega
  · obtain ⟨h1, h2, h3⟩ := Lib.bitLenAux_bounds 64 x (by omega) h0
    change 1 ≤ Lib.bitLen x at h1
    change 2 ^ (Lib.bitLen x - 1) ≤ x at h2
    change x < 2 ^ Lib.bitLen x at h3
    constructor
    · intro h
      exact Nat.le_trans (Nat.pow_le_pow_right (by omega) (by omega)) h2
    · intro h
      refine Nat.lt_of_not_le fun hc => ?_
      have := Nat.pow_le_pow_right (show 0 < 2 by omega) hc
      omega
theorem class_of (n : Int) (h : -9223372036854775808 ≤ n) (h' : n ≤ 9223372036854775807) : class_Of_0 n = haymowref04_Of_0 n ∧ c_class_Of n = true := by
  unfold class_Of_0 haymowref04_Of_0 c_class_Of
  by_cases c : n ≤ 1
  · rw [decide_eq_true c, decide_eq_false (show ¬ 1 < n by omega)]
    exact ⟨rfl, rfl⟩
  · rw [decide_eq_false c, wr64 (n - 1) (by omega) (by omega), wru (n - 1) (by omega) (by omega), decide_eq_true (show 0 ≤ n - 1 by omega), decide_eq_true (show n - 1 ≤ 18446744073709551615 by omega)]
    refine ⟨?_, rfl⟩
    obtain ⟨x, hx⟩ : ∃ x : Nat, n = x + 1 := ⟨(n - 1).toNat, by omega⟩
    subst hx
    have e : ((x : Int) + 1 - 1).toNat = x := by omega
    rw [e]
    have k0 := bl_gt x 0 (by omega)
    have k1 := bl_gt x 1 (by omega)
    have k2 := bl_gt x 2 (by omega)
    have k3 := bl_gt x 3 (by omega)
    have k4 := bl_gt x 4 (by omega)
    have k5 := bl_gt x 5 (by omega)
    have k6 := bl_gt x 6 (by omega)
    have k7 := bl_gt x 7 (by omega)
    have k8 := bl_gt x 8 (by omega)
    have k9 := bl_gt x 9 (by omega)
    have k10 := bl_gt x 10 (by omega)
    have k11 := bl_gt x 11 (by omega)
    have k12 := bl_gt x 12 (by omega)
    generalize Lib.bitLen x = L at *
    rw [cond_false]
    simp only [Bool.cond_eq_ite, decide_eq_true_eq]
    simp only [Int.ofNat_eq_natCast]
    simp only [Nat.reducePow] at *
    (repeat' split) <;> omega
end Go.Proofs.YtbjealobiblabaaGreatDoor

namespace Go.Proofs.YtbjealobiblabaaGreatDoor
open Go Go.RowKit
set_option maxRecDepth 100000
/-- A header that may be. -/
def OkH (p r s a : Int) : Prop := (0 ≤ p ∧ p ≤ 4095) ∧ (0 ≤ r ∧ r ≤ 4095) ∧ (0 ≤ s ∧ s ≤ 31) ∧ (0 ≤ a ∧ a ≤ 7)
instance (p r s a : Int) : Decidable (OkH p r s a) := inferInstanceAs (Decidable (_ ∧ _))
theorem in_ok {x m : Int} : header_within_0 x m = decide (0 ≤ x ∧ x ≤ m) := by
  unfold header_within_0
  by_cases h : 0 ≤ x
  · simp [h]
  · simp [h]
theorem chk_ok (p r s a : Int) (g : Bool) : (header_Check_0 p r s a g != 0) = !decide (OkH p r s a) := by
  unfold header_Check_0 OkH
  simp only [in_ok]
  by_cases h1 : 0 ≤ p ∧ p ≤ 4095
  · by_cases h2 : 0 ≤ r ∧ r ≤ 4095
    · by_cases h3 : 0 ≤ s ∧ s ≤ 31
      · by_cases h4 : 0 ≤ a ∧ a ≤ 7
        · simp [h1, h2, h3, h4]
        · simp [h1, h2, h3, h4]
      · simp [h1, h2, h3]
    · simp [h1, h2]
  · simp [h1]
theorem ref_ok (p r s a : Int) (g : Bool) : (haymowref12_Check_0 p r s a g == 0) = decide (OkH p r s a) := by
  unfold haymowref12_Check_0 OkH
  simp only [Bool.cond_eq_ite]
  by_cases h1 : 0 ≤ p ∧ p ≤ 4095
  · by_cases h2 : 0 ≤ r ∧ r ≤ 4095
    · by_cases h3 : 0 ≤ s ∧ s ≤ 31
      · by_cases h4 : 0 ≤ a ∧ a ≤ 7
        · simp [h1, h2, h3, h4, show ¬ p < 0 by omega, show ¬ 4095 < p by omega, show ¬ r < 0 by omega, show ¬ 4095 < r by omega, show ¬ s < 0 by omega, show ¬ 31 < s by omega, show ¬ a < 0 by omega, show ¬ 7 < a by omega]
        · have : a < 0 ∨ 7 < a := by omega
          simp [h1, h2, h3, h4, show ¬ p < 0 by omega, show ¬ 4095 < p by omega, show ¬ r < 0 by omega, show ¬ 4095 < r by omega, show ¬ s < 0 by omega, show ¬ 31 < s by omega, this]
      · have : s < 0 ∨ 31 < s := by omega
        simp [h1, h2, h3, show ¬ p < 0 by omega, show ¬ 4095 < p by omega, show ¬ r < 0 by omega, show ¬ 4095 < r by omega, this]
    · have : r < 0 ∨ 4095 < r := by omega
      rcases this with h | h <;> simp [h1, h2, show ¬ p < 0 by omega, show ¬ 4095 < p by omega, h]
  · have : p < 0 ∨ 4095 < p := by omega
    rcases this with h | h <;> simp [h1, h]
/-- The class of a shape. -/
def cls (p r : Int) : Int := haymowref04_Of_0 (1 + p + r)
theorem ref_words {p r s a : Int} (h : OkH p r s a) : haymowref13_Words_0 p r = 1 + p + r := by
  obtain ⟨⟨h1, h2⟩, ⟨h3, h4⟩, _⟩ := h
  unfold haymowref13_Words_0 haymowref13_Right_0
  rw [decide_eq_true h1, decide_eq_true (show p < 4096 by omega), decide_eq_true h3, decide_eq_true (show r < 4096 by omega)]
  simp only [cond_true, Bool.not_true, cond_false]
  rw [wr64 (1 + p) (by omega) (by omega), wr64 _ (by omega) (by omega)]
theorem hd_words {p r s a : Int} {g : Bool} (h : OkH p r s a) (s' a' : Int) : header_Words_0 p r s' a' g = 1 + p + r := by
  obtain ⟨⟨h1, h2⟩, ⟨h3, h4⟩, _⟩ := h
  unfold header_Words_0
  rw [wr64 (1 + p) (by omega) (by omega), wr64 _ (by omega) (by omega)]
theorem sh_words {p r s a : Int} (h : OkH p r s a) : shape_Words_0 p r = 1 + p + r := by
  have h' : OkH p r 0 0 := ⟨h.1, h.2.1, ⟨by omega, by omega⟩, by omega, by omega⟩
  unfold shape_Words_0 shape_Right_0
  have := chk_ok p r 0 0 false
  rw [decide_eq_true h'] at this
  have e : (header_Check_0 p r 0 0 false == 0) = true := by simpa [bne] using this
  rw [e]
  exact hd_words (g := false) h 0 0
theorem of_cls {p r s a : Int} {g : Bool} (h : OkH p r s a) : census_Of_0 p r s a g = cls p r ∧ c_census_Of p r s a g = true := by
  have hw := sh_words h
  obtain ⟨h1, h2⟩ := class_of (1 + p + r) (by have := h.1; have := h.2.1; omega) (by have := h.1; have := h.2.1; omega)
  unfold census_Of_0 shape_Class_0 c_census_Of c_shape_Class
  rw [hw, h2]
  exact ⟨h1, rfl⟩
/-- So many more of a kind. -/
def addM (es : List KV) (k : List Int) (o w : Int) : List KV := putM es k [IntKind.i64.wrap (((lookM es k).getD [0, 0]).headD 0 + o), IntKind.i64.wrap (((lookM es k).getD [0, 0]).tail.headD 0 + w)]
/-- One object more, if it may be. -/
def addH (es : List KV) (p r s a : Int) : List KV := bif decide (OkH p r s a) then addM es [s, cls p r, a] 1 (1 + p + r) else es
theorem add_run (es : List KV) (p r s a : Int) (g : Bool) : F_ Tryz.prog L_census_Of Tryz.f11 [] [1] 99 [.ptr 0 1 0 0, .agg [vi p, vi r, vi s, vi a, vb g]] ⟨[(0, some ⟨false, false, .cells [.mp 1]⟩), (1, some ⟨true, false, .obj (.mpo 3 2 es)⟩)], 2⟩ =
    bif header_Check_0 p r s a g != 0 then some (.ret (.tup []) ⟨[(1, some ⟨true, false, .obj (.mpo 3 2 es)⟩)], 99⟩ true)
    else some (.ret (.tup []) ⟨[(1, some ⟨true, false, .obj (.mpo 3 2 (addM es [s, census_Of_0 p r s a g, a] 1 (header_Words_0 p r s a g)))⟩)], 99⟩ (conj [c_census_Of p r s a g, c_census_Of p r s a g, keysN 3 es, keysN 3 es])) := by kernel_rfl
theorem add_nil (p r s a : Int) (g : Bool) : F_ Tryz.prog L_census_Of Tryz.f11 [] [] 99 [.val (.pointer none), .agg [vi p, vi r, vi s, vi a, vb g]] noMem = some (.ret (.tup []) ⟨[], 99⟩ true) := by kernel_rfl
def e_add : Spec := fun m args => match args with
  | [.val (.pointer none), .agg [.val (.int .i64 _), .val (.int .i64 _), .val (.int .i64 _), .val (.int .i64 _), .val (.bool _)]] => some (.tup [], none, [])
  | [.ptr l 1 0 0, .agg [.val (.int .i64 p), .val (.int .i64 r), .val (.int .i64 s), .val (.int .i64 a), .val (.bool _)]] => match look m.bl l with
    | some ⟨_, _, .cells [.mp lm]⟩ => match look m.bl lm with
      | some ⟨true, _, .obj (.mpo 3 2 es)⟩ => some (.tup [], some ⟨upd m.bl lm (some ⟨true, false, .obj (.mpo 3 2 (addH es p r s a))⟩), m.nx⟩, [keysN 3 es])
      | _ => none
    | _ => none
  | _ => none
theorem add_goes (es : List KV) (p r s a : Int) (g : Bool) (h : keysN 3 es = true) : F_ Tryz.prog L_census_Of Tryz.f11 [] [1] 99 [.ptr 0 1 0 0, .agg [vi p, vi r, vi s, vi a, vb g]] ⟨[(0, some ⟨false, false, .cells [.mp 1]⟩), (1, some ⟨true, false, .obj (.mpo 3 2 es)⟩)], 2⟩ =
    some (.ret (.tup []) ⟨[(1, some ⟨true, false, .obj (.mpo 3 2 (addH es p r s a))⟩)], 99⟩ true) := by
  rw [add_run, chk_ok]
  unfold addH
  by_cases hh : OkH p r s a
  · rw [decide_eq_true hh, Bool.not_true, cond_false, cond_true, h, (of_cls hh).2, (of_cls hh).1, hd_words hh]
    rfl
  · rw [decide_eq_false hh]
    rfl
theorem ok_add : SpecOk Tryz.prog 11 e_add := fun m args v mo bs h hb => by
  unfold e_add at h
  split at h
  · cases h
    exact pure_fn (c := bodyOf Tryz.f11) hE_census_Of mixedP (fun xs w => Tryz.call11 xs w) Tryz.func11 rfl (add_nil _ _ _ _ _) rfl rfl
  · rename_i l p r s a g
    split at h <;> try cases h
    rename_i _ _ lm hl
    split at h <;> cases h
    rename_i _ _ es hlm
    have hb : keysN 3 es = true := by simpa using hb
    exact lift_mw (br := [.agg [vi p, vi r, vi s, vi a, vb g]]) hl hlm (fsound (c := bodyOf Tryz.f11) (fun xs w => Tryz.call11 xs w) Tryz.func11 rfl (F_ret hE_census_Of mixedP rfl rfl (add_goes es p r s a g hb))) rfl rfl
  · cases h
end Go.Proofs.YtbjealobiblabaaGreatDoor

namespace Go.Proofs.YtbjealobiblabaaGreatDoor
open Go Go.RowKit
-- Maps
theorem findM_shift (k : List Int) : ∀ (es : List KV) (i d : Nat), findM k es (i + d) = (findM k es i).map fun q => (q.1 + d, q.2)
  | [], _, _ => rfl
  | (a, u) :: es, i, d => by
    simp only [findM]
    by_cases h : k = a
    · rw [decide_eq_true h]; rfl
    · rw [decide_eq_false h]
      have := findM_shift k es (i + 1) d
      rw [show i + 1 + d = i + d + 1 by omega] at this
      exact this
theorem lookM_nil (k : List Int) : lookM [] k = none := rfl
theorem lookM_cons (a u k : List Int) (es : List KV) : lookM ((a, u) :: es) k = if k = a then some u else lookM es k := by
  unfold lookM
  simp only [findM]
  by_cases h : k = a
  · rw [decide_eq_true h, if_pos h]
  · rw [decide_eq_false h, if_neg h]
    have := findM_shift k es 0 1
    simp only [Nat.zero_add] at this ⊢
    rw [this]
    cases findM k es 0 <;> rfl
theorem putM_nil (k v : List Int) : putM [] k v = [(k, v)] := rfl
theorem putM_cons (a u k v : List Int) (es : List KV) : putM ((a, u) :: es) k v = if k = a then (k, v) :: es else (a, u) :: putM es k v := by
  unfold putM
  simp only [findM]
  by_cases h : k = a
  · rw [decide_eq_true h, if_pos h]; rfl
  · rw [decide_eq_false h, if_neg h]
    have := findM_shift k es 0 1
    simp only [Nat.zero_add] at this ⊢
    rw [this]
    cases findM k es 0 <;> rfl
theorem look_put (k v k' : List Int) : ∀ es : List KV, lookM (putM es k v) k' = if k' = k then some v else lookM es k'
  | [] => by rw [putM_nil, lookM_cons]
  | (a, u) :: es => by
    rw [putM_cons]
    by_cases h : k = a
    · rw [if_pos h, lookM_cons, lookM_cons]
      subst h
      by_cases h2 : k' = k
      · rw [if_pos h2, if_pos h2]
      · rw [if_neg h2, if_neg h2, if_neg h2]
    · rw [if_neg h, lookM_cons, lookM_cons, look_put k v k' es]
      by_cases h2 : k' = a
      · rw [if_pos h2, if_pos h2, if_neg (fun e => h (by rw [← e, h2]))]
      · rw [if_neg h2, if_neg h2]
theorem put_keys (k v : List Int) : ∀ es : List KV, (k ∈ es.map (·.1) ∧ (putM es k v).map (·.1) = es.map (·.1)) ∨ (k ∉ es.map (·.1) ∧ (putM es k v).map (·.1) = es.map (·.1) ++ [k])
  | [] => .inr ⟨by simp, rfl⟩
  | (a, u) :: es => by
    rw [putM_cons]
    by_cases h : k = a
    · rw [if_pos h]; subst h
      exact .inl ⟨by simp, rfl⟩
    · rw [if_neg h]
      rcases put_keys k v es with ⟨h1, h2⟩ | ⟨h1, h2⟩
      · exact .inl ⟨List.mem_cons_of_mem _ h1, by rw [List.map_cons, List.map_cons, h2]⟩
      · exact .inr ⟨by rw [List.map_cons, List.mem_cons]; exact fun e => e.elim h h1, by rw [List.map_cons, List.map_cons, h2]; rfl⟩
theorem KD_iff {l : List KV} : KD l ↔ (∀ k ∈ l.map (·.1), k.length = 3) ∧ (l.map (·.1)).Nodup := by
  unfold KD
  refine and_congr_left' ⟨fun h k hk => ?_, fun h e he => h _ (List.mem_map.2 ⟨e, he, rfl⟩)⟩
  obtain ⟨e, he, rfl⟩ := List.mem_map.1 hk
  exact h e he
theorem KD.put {es : List KV} (h : KD es) {k : List Int} (hk : k.length = 3) (v : List Int) : KD (putM es k v) := by
  rw [KD_iff] at *
  rcases put_keys k v es with ⟨h1, h2⟩ | ⟨h1, h2⟩
  · rw [h2]; exact h
  · rw [h2]
    refine ⟨fun k' hk' => ?_, ?_⟩
    · rcases List.mem_append.1 hk' with h3 | h3
      · exact h.1 k' h3
      · rw [List.mem_singleton.1 h3]; exact hk
    · rw [List.nodup_append]
      refine ⟨h.2, by simp, fun a ha b hb e => ?_⟩
      rw [List.mem_singleton.1 hb] at e
      exact h1 (e ▸ ha)
theorem put_len (es : List KV) (k v : List Int) : (putM es k v).length ≤ es.length + 1 := by
  rw [putM_len]
  split <;> omega
theorem mem_look {es : List KV} (h : (es.map (·.1)).Nodup) (e : KV) : e ∈ es ↔ lookM es e.1 = some e.2 := by
  induction es with
  | nil => simp [lookM_nil]
  | cons a es ih =>
    obtain ⟨a, u⟩ := a
    obtain ⟨k, v⟩ := e
    rw [List.map_cons, List.nodup_cons] at h
    rw [lookM_cons, List.mem_cons]
    by_cases hk : k = a
    · subst hk
      rw [if_pos rfl]
      constructor
      · rintro (h1 | h1)
        · cases h1; rfl
        · exact absurd (List.mem_map.2 ⟨_, h1, rfl⟩) h.1
      · intro h1
        cases h1
        exact .inl rfl
    · rw [if_neg hk]
      rw [← ih h.2]
      exact ⟨fun h1 => h1.resolve_left fun e => hk (by cases e; rfl), .inr⟩
theorem nil_KD : KD [] := ⟨fun _ h => (by cases h), List.nodup_nil⟩
theorem KD.add {es : List KV} (h : KD es) {k : List Int} (hk : k.length = 3) (o w : Int) : KD (addM es k o w) := h.put hk _
theorem KD.addH {es : List KV} (h : KD es) (p r s a : Int) : KD (addH es p r s a) := by
  unfold Go.Proofs.YtbjealobiblabaaGreatDoor.addH
  cases decide (OkH p r s a) with
  | true => exact h.add rfl _ _
  | false => exact h
theorem addH_len (es : List KV) (p r s a : Int) : (addH es p r s a).length ≤ es.length + 1 := by
  unfold addH
  cases decide (OkH p r s a) with
  | true => exact put_len _ _ _
  | false => exact Nat.le_succ _
theorem KD.keys {es : List KV} (h : KD es) : keysN 3 es = true := List.all_eq_true.2 fun e he => by
  rw [h.1 e he]; rfl
-- Headers
abbrev Hd := Int × Int × Int × Int
def okHd (h : Hd) : Bool := decide (OkH h.1 h.2.1 h.2.2.1 h.2.2.2)
def keyH (h : Hd) : List Int := [h.2.2.1, cls h.1 h.2.1, h.2.2.2]
def isK (k : List Int) (h : Hd) : Bool := okHd h && decide (keyH h = k)
def cnt (k : List Int) : List Hd → Nat
  | [] => 0
  | h :: H => (bif isK k h then 1 else 0) + cnt k H
def wrd (k : List Int) : List Hd → Int
  | [] => 0
  | h :: H => (bif isK k h then 1 + h.1 + h.2.1 else 0) + wrd k H
theorem cnt_append (k : List Int) : ∀ H H' : List Hd, cnt k (H ++ H') = cnt k H + cnt k H'
  | [], H' => by simp [cnt]
  | h :: H, H' => by rw [List.cons_append, cnt, cnt, cnt_append k H H', Nat.add_assoc]
theorem wrd_append (k : List Int) : ∀ H H' : List Hd, wrd k (H ++ H') = wrd k H + wrd k H'
  | [], H' => by simp [wrd]
  | h :: H, H' => by rw [List.cons_append, wrd, wrd, wrd_append k H H']; omega
theorem cls_range (p r : Int) : 0 ≤ cls p r ∧ cls p r ≤ 13 := by
  unfold cls haymowref04_Of_0
  simp only [Bool.cond_eq_ite]
  (repeat' split) <;> omega
theorem isK_iff {k : List Int} {h : Hd} : isK k h = true ↔ OkH h.1 h.2.1 h.2.2.1 h.2.2.2 ∧ keyH h = k := by
  unfold isK okHd
  rw [Bool.and_eq_true, decide_eq_true_eq, decide_eq_true_eq]
theorem wrd_bounds (k : List Int) : ∀ H : List Hd, 0 ≤ wrd k H ∧ wrd k H ≤ 8191 * cnt k H ∧ cnt k H ≤ H.length
  | [] => by simp [wrd, cnt]
  | h :: H => by
    obtain ⟨h1, h2, h3⟩ := wrd_bounds k H
    simp only [wrd, cnt, List.length_cons]
    cases hk : isK k h with
    | true =>
      obtain ⟨⟨⟨a1, a2⟩, ⟨a3, a4⟩, _⟩, _⟩ := isK_iff.1 hk
      simp only [cond_true]
      omega
    | false => simp only [cond_false]; omega
theorem cnt_key {k : List Int} : ∀ {H : List Hd}, cnt k H ≠ 0 → ∃ s c a : Nat, s < 32 ∧ c < 14 ∧ a < 8 ∧ k = [(s : Int), (c : Int), (a : Int)]
  | [], h => absurd rfl h
  | h :: H, hc => by
    cases hk : isK k h with
    | true =>
      obtain ⟨⟨_, _, ⟨a1, a2⟩, a3, a4⟩, rfl⟩ := isK_iff.1 hk
      obtain ⟨c1, c2⟩ := cls_range h.1 h.2.1
      refine ⟨h.2.2.1.toNat, (cls h.1 h.2.1).toNat, h.2.2.2.toNat, by omega, by omega, by omega, ?_⟩
      unfold keyH
      rw [Int.toNat_of_nonneg a1, Int.toNat_of_nonneg c1, Int.toNat_of_nonneg a3]
    | false =>
      rw [cnt, hk] at hc
      exact cnt_key (H := H) (by simpa using hc)
/-- What a map of kinds holds, of headers. -/
def Holds (es : List KV) (H : List Hd) : Prop := KD es ∧ ∀ k, lookM es k = if cnt k H = 0 then none else some [(cnt k H : Int), wrd k H]
theorem holds_nil : Holds [] [] := ⟨nil_KD, fun k => rfl⟩
/-- So many more of a kind. -/
theorem look_add {es : List KV} {k : List Int} {H : List Hd} (h : Holds es H) (hH : H.length ≤ 100000) {o w : Int} (ho : 0 ≤ o ∧ o ≤ 100000) (hw : 0 ≤ w ∧ w ≤ 8191 * o) (k' : List Int) :
    lookM (addM es k o w) k' = if k' = k then some [(cnt k H : Int) + o, wrd k H + w] else lookM es k' := by
  unfold addM
  rw [look_put]
  by_cases e : k' = k
  · rw [if_pos e, if_pos e, h.2 k]
    obtain ⟨b1, b2, b3⟩ := wrd_bounds k H
    by_cases h0 : cnt k H = 0
    · rw [if_pos h0]
      simp only [Option.getD_none, List.headD_cons, List.tail_cons]
      have : wrd k H = 0 := by rw [h0] at b2; omega
      rw [h0, this, wr64 _ (by omega) (by omega), wr64 _ (by omega) (by omega)]
      rfl
    · rw [if_neg h0]
      simp only [Option.getD_some, List.headD_cons, List.tail_cons]
      rw [wr64 _ (by omega) (by omega), wr64 _ (by omega) (by omega)]
  · rw [if_neg e, if_neg e]
theorem one_yes {k : List Int} {x : Hd} (h : isK k x = true) : cnt k [x] = 1 ∧ wrd k [x] = 1 + x.1 + x.2.1 := by
  simp [cnt, wrd, h]
theorem one_no {k : List Int} {x : Hd} (h : isK k x = false) : cnt k [x] = 0 ∧ wrd k [x] = 0 := by
  simp [cnt, wrd, h]
theorem Holds.more {es : List KV} {H : List Hd} (h : Holds es H) (hH : H.length ≤ 100000) (x : Hd) : Holds (addH es x.1 x.2.1 x.2.2.1 x.2.2.2) (H ++ [x]) := by
  refine ⟨h.1.addH _ _ _ _, fun k => ?_⟩
  rw [cnt_append, wrd_append]
  unfold addH
  by_cases ho : OkH x.1 x.2.1 x.2.2.1 x.2.2.2
  · rw [decide_eq_true ho, cond_true, look_add h hH (by omega) (by obtain ⟨⟨_, _⟩, ⟨_, _⟩, _⟩ := ho; omega)]
    by_cases e : k = [x.2.2.1, cls x.1 x.2.1, x.2.2.2]
    · obtain ⟨e1, e2⟩ := one_yes (isK_iff.2 ⟨ho, e.symm⟩)
      rw [if_pos e, e1, e2, if_neg (by omega), ← e]
      rfl
    · have : isK k x = false := by
        cases hk : isK k x with
        | false => rfl
        | true => exact absurd (isK_iff.1 hk).2.symm e
      obtain ⟨e1, e2⟩ := one_no this
      rw [if_neg e, e1, e2, h.2 k, Int.add_zero]
      rfl
  · have : isK k x = false := by
      cases hk : isK k x with
      | false => rfl
      | true => exact absurd (isK_iff.1 hk).1 ho
    obtain ⟨e1, e2⟩ := one_no this
    rw [decide_eq_false ho, cond_false, e1, e2, h.2 k, Int.add_zero]
    rfl
/-- The document's rows. -/
def rowK (H : List Hd) (k : List Int) : List KV := if cnt k H = 0 then [] else [(k, [(cnt k H : Int), wrd k H])]
def rfA (H : List Hd) (s c : Int) (i j : Nat) : List KV := (List.range' i j).flatMap fun (a : Nat) => rowK H [s, c, (a : Int)]
def rfC (H : List Hd) (s : Int) (i j : Nat) : List KV := (List.range' i j).flatMap fun (c : Nat) => rfA H s (c : Int) 0 8
def rfS (H : List Hd) (i j : Nat) : List KV := (List.range' i j).flatMap fun (s : Nat) => rfC H (s : Int) 0 14
def RF (H : List Hd) : List KV := rfS H 0 32
theorem mem_rowK {H : List Hd} {k : List Int} {e : KV} : e ∈ rowK H k ↔ e.1 = k ∧ cnt k H ≠ 0 ∧ e.2 = [(cnt k H : Int), wrd k H] := by
  unfold rowK
  by_cases h : cnt k H = 0
  · rw [if_pos h]; simp [h]
  · rw [if_neg h, List.mem_singleton]
    obtain ⟨a, b⟩ := e
    constructor
    · intro h1; cases h1; exact ⟨rfl, h, rfl⟩
    · rintro ⟨h1, _, h3⟩
      simp only at h1 h3
      rw [h1] at *
      rw [h3, h1]
theorem mem_RF {H : List Hd} {e : KV} : e ∈ RF H ↔ cnt e.1 H ≠ 0 ∧ e.2 = [(cnt e.1 H : Int), wrd e.1 H] := by
  unfold RF rfS rfC rfA
  simp only [List.mem_flatMap, List.mem_range'_1, mem_rowK]
  constructor
  · rintro ⟨s, _, c, _, a, _, h1, h2, h3⟩
    rw [h1]
    exact ⟨h2, h3⟩
  · rintro ⟨h1, h2⟩
    obtain ⟨s, c, a, hs, hc, ha, hk⟩ := cnt_key h1
    exact ⟨s, ⟨by omega, by omega⟩, c, ⟨by omega, by omega⟩, a, ⟨by omega, by omega⟩, hk, by rw [← hk]; exact h1, by rw [← hk]; exact h2⟩
theorem rowK_pair (H : List Hd) (k : List Int) : (rowK H k).Pairwise LtK := by
  unfold rowK
  split
  · exact List.Pairwise.nil
  · exact List.pairwise_singleton _ _
theorem RF_sorted (H : List Hd) : (RF H).Pairwise LtK := by
  have lt : ∀ i j : Nat, (List.range' i j).Pairwise (· < ·) := fun i j => List.pairwise_lt_range' ..
  have kk : ∀ {s c a : Int} {e : KV}, e ∈ rowK H [s, c, a] → kA e = s ∧ kB e = c ∧ kC e = a := fun he => by
    unfold kA kB kC
    rw [(mem_rowK.1 he).1]
    exact ⟨rfl, rfl, rfl⟩
  have ka : ∀ {s c : Int} {i j : Nat} {e : KV}, e ∈ rfA H s c i j → kA e = s ∧ kB e = c := fun he => by
    obtain ⟨a, _, h⟩ := List.mem_flatMap.1 he
    exact ⟨(kk h).1, (kk h).2.1⟩
  have kc : ∀ {s : Int} {i j : Nat} {e : KV}, e ∈ rfC H s i j → kA e = s := fun he => by
    obtain ⟨c, _, h⟩ := List.mem_flatMap.1 he
    exact (ka h).1
  unfold RF rfS
  rw [List.pairwise_flatMap]
  refine ⟨fun s _ => ?_, (lt 0 32).imp fun {s s'} hs x hx y hy => Or.inl ?_⟩
  · unfold rfC
    rw [List.pairwise_flatMap]
    refine ⟨fun c _ => ?_, (lt 0 14).imp fun {c c'} hs x hx y hy => Or.inr ⟨by rw [(ka hx).1, (ka hy).1], Or.inl ?_⟩⟩
    · unfold rfA
      rw [List.pairwise_flatMap]
      refine ⟨fun a _ => rowK_pair _ _, (lt 0 8).imp fun {a a'} hs x hx y hy => Or.inr ⟨by rw [(kk hx).1, (kk hy).1], Or.inr ⟨by rw [(kk hx).2.1, (kk hy).2.1], ?_⟩⟩⟩
      rw [(kk hx).2.2, (kk hy).2.2]
      omega
    · rw [(ka hx).2, (ka hy).2]
      omega
  · rw [kc hx, kc hy]
    omega
theorem lt_irr {x : KV} : ¬ LtK x x := by unfold LtK; omega
theorem perm_of {l l' : List KV} (h : l.Nodup) (h' : l'.Nodup) (hm : ∀ e, e ∈ l ↔ e ∈ l') : l.Perm l' := by
  rw [List.perm_iff_count]
  intro a
  by_cases ha : a ∈ l
  · rw [List.Nodup.count h, List.Nodup.count h', if_pos ha, if_pos ((hm a).1 ha)]
  · rw [List.Nodup.count h, List.Nodup.count h', if_neg ha, if_neg (fun h => ha ((hm a).2 h))]
theorem nodup_map {l : List KV} (h : (l.map (·.1)).Nodup) : l.Nodup := by
  induction l with
  | nil => exact List.nodup_nil
  | cons a l ih =>
    rw [List.map_cons, List.nodup_cons] at h
    exact List.nodup_cons.2 ⟨fun ha => h.1 (List.mem_map.2 ⟨a, ha, rfl⟩), ih h.2⟩
/-- The rows of a map that holds what headers make are the document's. -/
theorem sort_RF {es : List KV} {H : List Hd} (h : Holds es H) : sortK es = RF H := by
  have hs := RF_sorted H
  have p : es.Perm (RF H) := perm_of (nodup_map h.1.2) (List.Pairwise.imp (fun {x y} hl (e : x = y) => lt_irr (e ▸ hl)) hs) fun e => by
    rw [mem_look h.1.2, mem_RF, h.2]
    by_cases h0 : cnt e.1 H = 0
    · rw [if_pos h0]; simp [h0]
    · rw [if_neg h0]
      simp only [Option.some.injEq, ne_eq, h0, not_false_eq_true, true_and]
      exact eq_comm
  refine List.Perm.eq_of_pairwise (le := fun x y => leK x y = true) (fun a b ha hb h1 h2 => ?_) (sortK_sorted es) (hs.imp fun {x y} hl => leK_iff.2 (by unfold LtK at *; omega)) ((sortK_perm es).trans p)
  exact h.1.inj ((sortK_perm es).mem_iff.1 ha) (p.mem_iff.2 hb) (leK_iff.1 h2) (leK_iff.1 h1)
end Go.Proofs.YtbjealobiblabaaGreatDoor

namespace Go.Proofs.YtbjealobiblabaaGreatDoor
open Go Go.RowKit
set_option maxRecDepth 100000
abbrev hdAt (P R S A : List Int) (i : Nat) : Hd := (P.getD i 0, R.getD i 0, S.getD i 0, A.getD i 0)
/-- Headers, from columns. -/
def hdI (P R S A : List Int) (i j : Nat) : List Hd := (List.range' i j).map (hdAt P R S A)
theorem hdI_len (P R S A : List Int) (i j : Nat) : (hdI P R S A i j).length = j := by simp [hdI]
theorem hdI_succ (P R S A : List Int) (i j : Nat) : hdI P R S A i (j + 1) = hdAt P R S A i :: hdI P R S A (i + 1) j := by simp [hdI, List.range'_succ]
/-- What a census of them holds. -/
def ofF (P R S A : List Int) : Nat → Nat → List KV → List KV
  | _, 0, es => es
  | i, j + 1, es => ofF P R S A (i + 1) j (addH es (P.getD i 0) (R.getD i 0) (S.getD i 0) (A.getD i 0))
theorem of_holds (P R S A : List Int) : ∀ (j i : Nat) (es : List KV) (H : List Hd), Holds es H → H.length + j ≤ 100000 → Holds (ofF P R S A i j es) (H ++ hdI P R S A i j)
  | 0, i, es, H, h, _ => by simpa [hdI, ofF] using h
  | j + 1, i, es, H, h, hb => by
    have := of_holds P R S A j (i + 1) _ _ (h.more (by omega) (hdAt P R S A i)) (by rw [List.length_append, List.length_singleton]; omega)
    rw [hdI_succ, ofF]
    simpa using this
theorem of_len (P R S A : List Int) : ∀ (j i : Nat) (es : List KV), (ofF P R S A i j es).length ≤ es.length + j
  | 0, i, es => Nat.le_refl _
  | j + 1, i, es => by
    have := of_len P R S A j (i + 1) (addH es (P.getD i 0) (R.getD i 0) (S.getD i 0) (A.getD i 0))
    have := addH_len es (P.getD i 0) (R.getD i 0) (S.getD i 0) (A.getD i 0)
    rw [ofF]
    omega
abbrev hdC (P R S A : List Int) (G : List Bool) : Cont := .rows [.ints .i64 P, .ints .i64 R, .ints .i64 S, .ints .i64 A, .bools G]
end Go.Proofs.YtbjealobiblabaaGreatDoor

namespace Go.Proofs.YtbjealobiblabaaGreatDoor
open Go Go.RowKit
def survive_is_0 (site_ : Int) (age_ : Int) : Bool := bif bif bif decide (0 ≤ site_) then decide (site_ < 32) else false then decide (0 ≤ age_) else false then decide (age_ < 7) else false
def s_survive_is (site_ : Int) (age_ : Int) : AV := AV.val (Value.bool (survive_is_0 site_ age_))
theorem t_survive_is (site_ : Int) (age_ : Int) : F_ Tryz.prog L_census_Of Tryz.f25 [] [] 99 [AV.val (Value.int IntKind.i64 site_), AV.val (Value.int IntKind.i64 age_)] noMem = some (.ret (s_survive_is site_ age_) { bl := [], nx := 99 } true) := by kernel_rfl
def e_survive_is : Spec := fun _ args => match args with
  | [.val (.int .i64 site_), .val (.int .i64 age_)] => some (s_survive_is site_ age_, none, [])
  | _ => none
theorem ok_survive_is : SpecOk Tryz.prog 25 e_survive_is := fun m args v mo bs h hb => by
  unfold e_survive_is at h
  split at h
  · cases h
    exact pure_fn (c := bodyOf Tryz.f25) hE_census_Of mixedP (fun xs w => Tryz.call25 xs w) Tryz.func25 rfl (t_survive_is _ _) rfl rfl
  · cases h
def L_survive_is : List (FuncId × Spec) := (25, e_survive_is) :: L_census_Of
theorem hE_survive_is : ESound Tryz.prog (envOf L_survive_is) := env_cons ok_survive_is hE_census_Of
end Go.Proofs.YtbjealobiblabaaGreatDoor

namespace Go.Proofs.YtbjealobiblabaaGreatDoor
open Go Go.RowKit
set_option maxRecDepth 100000
abbrev svI (s a : Int) : Nat := addN (addN 0 (mulN s.toNat 7)) (mulN a.toNat 1) + 0
theorem svI_nat (s a : Nat) : svI (s : Int) (a : Int) = s * 7 + a := by unfold svI; rw [addN_eq, addN_eq, mulN_eq, mulN_eq, Int.toNat_natCast, Int.toNat_natCast]; omega
abbrev svA (s : Int) : Nat := addN (addN 0 (mulN s.toNat 7)) 0 + 0
theorem svA_nat (s : Nat) : svA (s : Int) = s * 7 := by unfold svA; rw [addN_eq, addN_eq, mulN_eq, Int.toNat_natCast]; omega
theorem is_iff {s a : Int} : survive_is_0 s a = true ↔ (0 ≤ s ∧ s < 32) ∧ 0 ≤ a ∧ a < 7 := by
  unfold survive_is_0
  by_cases h1 : 0 ≤ s
  · by_cases h2 : s < 32
    · by_cases h3 : 0 ≤ a
      · by_cases h4 : a < 7 <;> simp [h1, h2, h3, h4]
      · simp [h1, h2, h3]
    · simp [h1, h2]
  · simp [h1]
theorem svI_lt {s a : Int} (h : survive_is_0 s a = true) : svI s a < 224 := by
  obtain ⟨⟨h1, h2⟩, h3, h4⟩ := is_iff.1 h
  obtain ⟨x, rfl⟩ := Int.eq_ofNat_of_zero_le h1
  obtain ⟨y, rfl⟩ := Int.eq_ofNat_of_zero_le h3
  rw [svI_nat]
  omega
theorem svA_lt {s : Int} (h : survive_is_0 s 0 = true) : svA s < 224 := by
  obtain ⟨⟨h1, h2⟩, h3, h4⟩ := is_iff.1 h
  obtain ⟨x, rfl⟩ := Int.eq_ofNat_of_zero_le h1
  rw [svA_nat]
  omega
abbrev svB (zs : List Int) : Nat × Option ABlk := (0, some ⟨true, false, .col (.ints .i64 zs)⟩)
def askF (zs : List Int) (s : Int) : List Int := bif survive_is_0 s 0 then zs.set (svA s) (IntKind.i64.wrap (zs.getD (svA s) 0 + 1)) else zs
def seeF : List Int → List KV → List Int
  | zs, [] => zs
  | zs, e :: l => seeF (bif (bif decide (1 ≤ kC e) then survive_is_0 (kA e) (kC e) else false) then zs.set (svI (kA e) (kC e)) (IntKind.i64.wrap (zs.getD (svI (kA e) (kC e)) 0 + kD e)) else zs) l
theorem askF_len (zs : List Int) (s : Int) : (askF zs s).length = zs.length := by
  unfold askF
  cases survive_is_0 s 0 <;> simp
theorem seeF_len : ∀ (l : List KV) (zs : List Int), (seeF zs l).length = zs.length
  | [], _ => rfl
  | e :: l, zs => by
    rw [seeF, seeF_len l]
    cases (bif decide (1 ≤ kC e) then survive_is_0 (kA e) (kC e) else false) <;> simp
theorem ask_run (zs : List Int) (s : Int) : F_ Tryz.prog L_survive_is Tryz.f8 [] [0] 99 [.ptr 0 1 0 0, vi s] ⟨[svB zs], 1⟩ =
    bif !survive_is_0 s 0 then some (.ret (vi 21) ⟨[svB zs], 99⟩ true)
    else some (.ret (vi 0) ⟨[svB (zs.set (svA s) (IntKind.i64.wrap (zs.getD (svA s) 0 + 1)))], 99⟩ (conj [decide (0 ≤ s), decide (s.toNat < 32), decide (svA s < zs.length), decide (0 ≤ s), decide (s.toNat < 32), decide (svA s < zs.length)])) := by kernel_rfl
def e_ask : Spec := fun m args => match args with
  | [.ptr l 1 0 0, .val (.int .i64 s)] => match look m.bl l with
    | some ⟨true, _, .col (.ints .i64 zs)⟩ => some (vi (bif survive_is_0 s 0 then 0 else 21), some ⟨upd m.bl l (some ⟨true, false, .col (.ints .i64 (askF zs s))⟩), m.nx⟩, [decide (zs.length = 225)])
    | _ => none
  | _ => none
theorem ok_ask : SpecOk Tryz.prog 8 e_ask := fun m args v mo bs h hb => by
  unfold e_ask at h
  split at h
  · rename_i l s
    split at h <;> cases h
    rename_i op zs hl
    have hz : zs.length = 225 := by simpa using hb
    have g : F_ Tryz.prog L_survive_is Tryz.f8 [] [0] 99 [.ptr 0 1 0 0, vi s] ⟨[svB zs], 1⟩ = some (.ret (vi (bif survive_is_0 s 0 then 0 else 21)) ⟨[svB (askF zs s)], 99⟩ true) := by
      rw [ask_run]
      unfold askF
      cases hs : survive_is_0 s 0 with
      | false => rfl
      | true =>
        obtain ⟨⟨h1, h2⟩, _⟩ := is_iff.1 hs
        have := svA_lt hs
        rw [decide_eq_true h1, decide_eq_true (show s.toNat < 32 by omega), decide_eq_true (show svA s < zs.length by omega)]
        rfl
    exact lift_w1 (ar := []) (br := [vi s]) hl rfl rfl (fsound (c := bodyOf Tryz.f8) (fun xs w => Tryz.call8 xs w) Tryz.func8 rfl (F_ret hE_survive_is mixedP rfl rfl g)) rfl rfl rfl rfl
  · cases h
-- Reached, Died
def rchF (zs : List Int) (s a : Int) : Int := bif survive_is_0 s a then zs.getD (svI s a) 0 else 0
def e_rch : Spec := fun m args => match args with
  | [.ptr l 1 0 0, .val (.int .i64 s), .val (.int .i64 a)] => match look m.bl l with
    | some ⟨_, _, .col (.ints .i64 zs)⟩ => some (vi (rchF zs s a), none, [decide (zs.length = 225)])
    | _ => none
  | _ => none
theorem rch_run (zs : List Int) (s a : Int) : F_ Tryz.prog L_survive_is Tryz.f58 [] [] 99 [.ptr 0 1 0 0, vi s, vi a] ⟨[(0, some ⟨false, false, .col (.ints .i64 zs)⟩)], 1⟩ =
    bif !survive_is_0 s a then some (.ret (vi 0) ⟨[], 99⟩ true)
    else some (.ret (vi (zs.getD (svI s a) 0)) ⟨[], 99⟩ (conj [decide (0 ≤ s), decide (s.toNat < 32), decide (0 ≤ a), decide (a.toNat < 7), decide (svI s a < zs.length)])) := by kernel_rfl
theorem ok_rch : SpecOk Tryz.prog 58 e_rch := fun m args v mo bs h hb => by
  unfold e_rch at h
  split at h
  · rename_i l s a
    split at h <;> cases h
    rename_i _ op zs hl
    have hz : zs.length = 225 := by simpa using hb
    have g : F_ Tryz.prog L_survive_is Tryz.f58 [] [] 99 [.ptr 0 1 0 0, vi s, vi a] ⟨[(0, some ⟨false, false, .col (.ints .i64 zs)⟩)], 1⟩ = some (.ret (vi (rchF zs s a)) ⟨[], 99⟩ true) := by
      rw [rch_run]
      unfold rchF
      cases hs : survive_is_0 s a with
      | false => rfl
      | true =>
        obtain ⟨⟨h1, h2⟩, h3, h4⟩ := is_iff.1 hs
        have := svI_lt hs
        rw [decide_eq_true h1, decide_eq_true (show s.toNat < 32 by omega), decide_eq_true h3, decide_eq_true (show a.toNat < 7 by omega), decide_eq_true (show svI s a < zs.length by omega)]
        rfl
    exact lift_p (ar := []) (br := [vi s, vi a]) hl rfl (fsound (c := bodyOf Tryz.f58) (fun xs w => Tryz.call58 xs w) Tryz.func58 rfl (F_ret hE_survive_is mixedP rfl rfl g)) rfl rfl rfl rfl
  · cases h
abbrev L_rch : List (FuncId × Spec) := (58, e_rch) :: L_survive_is
theorem hE_rch : ESound Tryz.prog (envOf L_rch) := env_cons ok_rch hE_survive_is
def diedF (zs : List Int) (s a : Int) : Int := bif survive_is_0 s (IntKind.i64.wrap (a + 1)) then IntKind.i64.wrap (rchF zs s a - rchF zs s (IntKind.i64.wrap (a + 1))) else 0
def e_died : Spec := fun m args => match args with
  | [.ptr l 1 0 0, .val (.int .i64 s), .val (.int .i64 a)] => match look m.bl l with
    | some ⟨_, _, .col (.ints .i64 zs)⟩ => some (vi (diedF zs s a), none, [decide (zs.length = 225)])
    | _ => none
  | _ => none
-- See
abbrev L_see : List (FuncId × Spec) := (30, e_rows) :: L_survive_is
theorem hE_see : ESound Tryz.prog (envOf L_see) := env_cons ok_rows hE_survive_is
abbrev seC : List Cut := [(1,[0,14,15,16],[0,3],9)]
abbrev seT (n : Nat) (i : Int) : List AV := [.ptr 0 1 0 0] ++ List.replicate 13 .unk ++ [.sl false 3 5 0 1 n none, vi (Int.ofNat n), vi i] ++ List.replicate 37 .unk
abbrev seM (zs : List Int) (l : List KV) (nx : Nat) : MS := ⟨[svB zs, (3, some ⟨false, false, .rows (colsF fs5 l)⟩)], nx⟩
theorem see_in (zs : List Int) (es : List KV) : F_ Tryz.prog L_see Tryz.f12 seC [0] 99 [.ptr 0 1 0 0, .ptr 1 1 0 0] ⟨[svB zs, (1, some ⟨false, false, .cells [.mp 2]⟩), (2, some ⟨false, false, .obj (.mpo 3 2 es)⟩)], 3⟩ = some (.head (hd Tryz.f12 0) (seT es.length 0) (seM (zs.set 224 (IntKind.i64.wrap (zs.getD 224 0 + 1))) (sortK es) 9) (conj [decide (224 < zs.length), decide (224 < zs.length), decide (KD es), Nat.ble es.length 4096])) := by kernel_rfl
theorem see_round (zs : List Int) (l : List KV) (n : Nat) (i : Int) : H_ Tryz.prog L_see Tryz.f12 seC [0] 99 (hd Tryz.f12 0) (seT n i) (seM zs l 4) =
    bif decide (i < Int.ofNat n) then (bif (bif decide (1 ≤ (l.map kC).getD (iz i) 0) then survive_is_0 ((l.map kA).getD (iz i) 0) ((l.map kC).getD (iz i) 0) else false) then some (.head (hd Tryz.f12 0) (seT n (up1 i)) (seM (zs.set (svI ((l.map kA).getD (iz i) 0) ((l.map kC).getD (iz i) 0)) (IntKind.i64.wrap (zs.getD (svI ((l.map kA).getD (iz i) 0) ((l.map kC).getD (iz i) 0)) 0 + (l.map kD).getD (iz i) 0))) l 9) (conj [decide (0 ≤ i), decide (i.toNat < n), decide (iz i < (l.map kA).length), decide (iz i < (l.map kB).length), decide (iz i < (l.map kC).length), decide (iz i < (l.map kD).length), decide (iz i < (l.map kE).length), decide (0 ≤ (l.map kA).getD (iz i) 0), decide (((l.map kA).getD (iz i) 0).toNat < 32), decide (0 ≤ (l.map kC).getD (iz i) 0), decide (((l.map kC).getD (iz i) 0).toNat < 7), decide (svI ((l.map kA).getD (iz i) 0) ((l.map kC).getD (iz i) 0) < zs.length), decide (0 ≤ (l.map kA).getD (iz i) 0), decide (((l.map kA).getD (iz i) 0).toNat < 32), decide (0 ≤ (l.map kC).getD (iz i) 0), decide (((l.map kC).getD (iz i) 0).toNat < 7), decide (svI ((l.map kA).getD (iz i) 0) ((l.map kC).getD (iz i) 0) < zs.length)])) else some (.head (hd Tryz.f12 0) (seT n (up1 i)) (seM zs l 9) (conj [decide (0 ≤ i), decide (i.toNat < n), decide (iz i < (l.map kA).length), decide (iz i < (l.map kB).length), decide (iz i < (l.map kC).length), decide (iz i < (l.map kD).length), decide (iz i < (l.map kE).length)])))
    else some (.ret (.tup []) ⟨[svB zs], 99⟩ true) := by kernel_rfl
theorem see_loop (l : List KV) (hn : l.length ≤ 4096) : ∀ (j i : Nat) (zs : List Int), i + j = l.length → zs.length = 225 → Gives_ Tryz.prog Tryz.f12 3 ⟨hd Tryz.f12 0, seT l.length (i : Int), seM zs l 4⟩ (.tup []) ⟨[svB (seeF zs (l.drop i))], 99⟩
  | 0, i, zs, hi, hz => by
    have h := see_round zs l l.length (i : Int)
    rw [decide_eq_false (show ¬ (i : Int) < Int.ofNat l.length by show ¬ (i : Int) < (l.length : Int); omega), cond_false] at h
    rw [List.drop_of_length_le (by omega)]
    exact H_ret (cuts := seC) (ns := [0]) (top := 99) hE_see mixedP rfl h
  | j + 1, i, zs, hi, hz => by
    have hlt : i < l.length := by omega
    have h := see_round zs l l.length (i : Int)
    have eA : ∀ f : KV → Int, (l.map f).length = l.length := fun f => List.length_map ..
    rw [decide_eq_true (show (i : Int) < Int.ofNat l.length by show (i : Int) < (l.length : Int); omega), cond_true, eA, eA, eA, eA, eA, mapD kA hlt, mapD kC hlt, mapD kD hlt, iz_nat, Int.toNat_natCast, decide_eq_true (show 0 ≤ (i : Int) by omega), decide_eq_true hlt, up1_nat (by omega)] at h
    rw [List.drop_eq_getElem_cons hlt, seeF]
    cases hc : (bif decide (1 ≤ kC l[i]) then survive_is_0 (kA l[i]) (kC l[i]) else false) with
    | true =>
      have hs : survive_is_0 (kA l[i]) (kC l[i]) = true := by
        cases hd : decide (1 ≤ kC l[i]) with
        | true => rw [hd, cond_true] at hc; exact hc
        | false => rw [hd, cond_false] at hc; cases hc
      obtain ⟨⟨h1, h2⟩, h3, h4⟩ := is_iff.1 hs
      have hx := svI_lt hs
      rw [hc, cond_true, decide_eq_true h1, decide_eq_true (show (kA l[i]).toNat < 32 by omega), decide_eq_true h3, decide_eq_true (show (kC l[i]).toNat < 7 by omega), decide_eq_true (show svI (kA l[i]) (kC l[i]) < zs.length by omega)] at h
      exact Goes.gives ((H_head (f := Tryz.f12) (cuts := seC) (ns := [0]) (top := 99) hE_see mixedP rfl h).trans (Goes.ren (P := Tryz.prog) (B := 3) (σ := [(0, 0), (3, 3)]) (nx := 4) rfl)) (see_loop l hn j (i + 1) _ (by omega) (by simpa using hz))
    | false =>
      rw [hc, cond_false] at h
      exact Goes.gives ((H_head (f := Tryz.f12) (cuts := seC) (ns := [0]) (top := 99) hE_see mixedP rfl h).trans (Goes.ren (P := Tryz.prog) (B := 3) (σ := [(0, 0), (3, 3)]) (nx := 4) rfl)) (see_loop l hn j (i + 1) _ (by omega) hz)
def seeS (zs : List Int) (es : List KV) : List Int := seeF (zs.set 224 (IntKind.i64.wrap (zs.getD 224 0 + 1))) (sortK es)
theorem seeS_len (zs : List Int) (es : List KV) : (seeS zs es).length = zs.length := by unfold seeS; rw [seeF_len, List.length_set]
theorem see_all (zs : List Int) (es : List KV) (hz : zs.length = 225) (hk : KD es) (hn : es.length ≤ 4096) : Gives_ Tryz.prog Tryz.f12 3 (enterA Tryz.f12 (bodyOf Tryz.f12) [.ptr 0 1 0 0, .ptr 1 1 0 0] ⟨[svB zs, (1, some ⟨false, false, .cells [.mp 2]⟩), (2, some ⟨false, false, .obj (.mpo 3 2 es)⟩)], 3⟩) (.tup []) ⟨[svB (seeS zs es)], 99⟩ := by
  have h := see_in zs es
  rw [decide_eq_true (show 224 < zs.length by omega), decide_eq_true hk, Nat.ble_eq_true_of_le hn, ← sortK_len es] at h
  have g := see_loop (sortK es) (by rw [sortK_len]; exact hn) (sortK es).length 0 (zs.set 224 (IntKind.i64.wrap (zs.getD 224 0 + 1))) (by omega) (by simpa using hz)
  rw [List.drop_zero] at g
  exact Goes.gives ((F_head (f := Tryz.f12) (c := bodyOf Tryz.f12) (m := ⟨[svB zs, (1, some ⟨false, false, .cells [.mp 2]⟩), (2, some ⟨false, false, .obj (.mpo 3 2 es)⟩)], 3⟩) (cuts := seC) (ns := [0]) (top := 99) hE_see mixedP rfl rfl h).trans (Goes.ren (P := Tryz.prog) (B := 3) (σ := [(0, 0), (3, 3)]) (nx := 4) rfl)) g
def e_see : Spec := fun m args => match args with
  | [.ptr s 1 0 0, .ptr c 1 0 0] => match look m.bl s, look m.bl c with
    | some ⟨true, _, .col (.ints .i64 zs)⟩, some ⟨_, _, .cells [.mp cm]⟩ => match look m.bl cm with
      | some ⟨_, _, .obj (.mpo 3 2 es)⟩ => some (.tup [], some ⟨upd m.bl s (some ⟨true, false, .col (.ints .i64 (seeS zs es))⟩), m.nx⟩, [decide (zs.length = 225), decide (KD es), Nat.ble es.length 4096])
      | _ => none
    | _, _ => none
  | _ => none
theorem ok_see : SpecOk Tryz.prog 12 e_see := fun m args v mo bs h hb => by
  unfold e_see at h
  split at h
  · rename_i s c
    split at h <;> try cases h
    rename_i op zs _ _ cm hs hl
    split at h <;> cases h
    rename_i _ _ _ es hlm
    simp only [List.all_cons, List.all_nil, id, Bool.and_true, Bool.and_eq_true, decide_eq_true_eq] at hb
    obtain ⟨h1, h2, h3⟩ := hb
    have n1 : s ≠ c := fun e => by subst e; rw [hs] at hl; cases hl
    have n2 : s ≠ cm := fun e => by subst e; rw [hs] at hlm; cases hlm
    have n3 : c ≠ cm := fun e => by subst e; rw [hl] at hlm; cases hlm
    have f := fsound (c := bodyOf Tryz.f12) (fun xs w => Tryz.call12 xs w) Tryz.func12 rfl (see_all zs es h1 h2 (Nat.le_of_ble_eq_true h3))
    have q := lift_gen (m := m) (args := [.ptr s 1 0 0, .ptr c 1 0 0]) (σi := [(0, s), (1, c), (2, cm)]) (σo := [(s, 0), (c, 1), (cm, 2)]) (nx' := m.nx) f (by
        simp only [AV.rens, AV.ren, newOf, Nat.beq_refl, nbeq_ne n1, nbeq_ne (Ne.symm n1)]) (fun k b1 hk => by
        rw [look_cons] at hk
        split at hk
        · rename_i e; subst e; cases hk
          exact ⟨s, _, by simp, hs, (Cont.ren_ground rfl).symm, (fun _ => rfl), fun h => by cases h⟩
        · rw [look_cons] at hk
          split at hk
          · rename_i e; subst e; cases hk
            refine ⟨c, _, by simp, hl, ?_, (fun h => by cases h), fun h => by cases h⟩
            simp only [Cont.ren, AV.rens, AV.ren, newOf, nbeq_ne n2, nbeq_ne n3, nbeq_ne (Ne.symm n2), nbeq_ne (Ne.symm n3), Nat.beq_refl]
          · rw [look_cons] at hk
            split at hk
            · rename_i e; subst e; cases hk
              exact ⟨cm, _, by simp, hlm, (Cont.ren_ground rfl).symm, (fun h => by cases h), fun h => by cases h⟩
            · cases hk)
      (fun p hp => by
        simp only [List.mem_cons, List.not_mem_nil, or_false] at hp
        rcases hp with rfl | rfl | rfl
        · exact ⟨by show (0 : Nat) < 3; omega, by simp⟩
        · exact ⟨by show (1 : Nat) < 3; omega, by simp⟩
        · exact ⟨by show (2 : Nat) < 3; omega, by simp⟩)
      rfl (by simp [distB, memB, nbeq_ne n1, nbeq_ne n2, nbeq_ne n3, nbeq_ne (Ne.symm n1), nbeq_ne (Ne.symm n2), nbeq_ne (Ne.symm n3)]) (by simp [distB, memB, nbeq_ne n1, nbeq_ne n2, nbeq_ne n3, nbeq_ne (Ne.symm n1), nbeq_ne (Ne.symm n2), nbeq_ne (Ne.symm n3)]) rfl
      (fun p hp => by
        simp only [List.mem_cons, List.not_mem_nil, or_false] at hp
        rcases hp with rfl | rfl | rfl
        · exact ⟨_, hs⟩
        · exact ⟨_, hl⟩
        · exact ⟨_, hlm⟩)
      (fun p hp => by
        simp only [List.mem_cons, List.not_mem_nil, or_false] at hp
        rcases hp with rfl | rfl | rfl
        · exact .inl (by simp)
        · exact .inl (by simp)
        · exact .inl (by simp)) (Nat.le_refl _) (fun k bk hk _ => by obtain ⟨rfl, rfl⟩ := look_one hk; rfl)
    refine q.less rfl fun k bk hk => ?_
    have hk : look (upd m.bl s (some ⟨true, false, .col (.ints .i64 (seeS zs es))⟩)) k = some bk := hk
    rw [look_upd] at hk
    show look (outB [(s, 0), (c, 1), (cm, 2)] [svB zs, (1, some ⟨false, false, .cells [.mp 2]⟩), (2, some ⟨false, false, .obj (.mpo 3 2 es)⟩)] [svB (seeS zs es)] [(s, 0), (c, 1), (cm, 2)] m.bl) k = some bk
    have e : outB [(s, 0), (c, 1), (cm, 2)] [svB zs, (1, some ⟨false, false, .cells [.mp 2]⟩), (2, some ⟨false, false, .obj (.mpo 3 2 es)⟩)] [svB (seeS zs es)] [(s, 0), (c, 1), (cm, 2)] m.bl = (s, some ⟨true, false, .col (.ints .i64 (seeS zs es))⟩) :: m.bl := rfl
    rw [e, look_cons]
    exact hk
  · cases h
end Go.Proofs.YtbjealobiblabaaGreatDoor

namespace Go.Proofs.YtbjealobiblabaaGreatDoor
open Go Go.RowKit
set_option maxRecDepth 100000
abbrev st (zs : List Int) : AV := .agg ((expl 224 zs).map fun z => .val (.int .i64 z))
def stateOf (cs : List AV) : Option (List Int) := match Nat.beq cs.length 224 with
  | true => match allInts cs with
    | some (.i64, zs) => some zs
    | _ => none
  | false => none
theorem stateOf_eq {cs : List AV} {zs : List Int} (h : stateOf cs = some zs) : (.agg cs : AV) = st zs ∧ zs.length = 224 := by
  unfold stateOf at h
  split at h
  · rename_i hl
    split at h
    · rename_i zs' hz
      cases h
      have e := allInts_eq hz
      have hl := Nat.eq_of_beq_eq_true hl
      rw [e, List.length_map] at hl
      exact ⟨by rw [st, expl_whole hl, e], hl⟩
    · cases h
  · cases h
theorem st_ground (zs : List Int) (h : zs.length = 224) : AV.ground (st zs) = true := by
  rw [st, expl_whole h]
  show AV.grounds _ = true
  clear h
  induction zs with
  | nil => rfl
  | cons z zs ih => simpa [AV.grounds, AV.ground] using ih
def outR (s a : Int) : Bool := bif bif bif decide (s < 0) then true else decide (31 < s) then true else decide (a < 0) then true else decide (6 < a)
theorem outR_is (s a : Int) : outR s a = !survive_is_0 s a := by
  cases h : survive_is_0 s a with
  | true =>
    obtain ⟨⟨h1, h2⟩, h3, h4⟩ := is_iff.1 h
    unfold outR
    rw [decide_eq_false (show ¬ s < 0 by omega), decide_eq_false (show ¬ 31 < s by omega), decide_eq_false (show ¬ a < 0 by omega), decide_eq_false (show ¬ 6 < a by omega)]
    rfl
  | false =>
    have hn : ¬ ((0 ≤ s ∧ s < 32) ∧ 0 ≤ a ∧ a < 7) := fun h' => by rw [is_iff.2 h'] at h; cases h
    unfold outR
    by_cases h1 : s < 0
    · rw [decide_eq_true h1]; rfl
    · by_cases h2 : 31 < s
      · rw [decide_eq_false h1, decide_eq_true h2]; rfl
      · by_cases h3 : a < 0
        · rw [decide_eq_false h1, decide_eq_false h2, decide_eq_true h3]; rfl
        · rw [decide_eq_false h1, decide_eq_false h2, decide_eq_false h3, decide_eq_true (show 6 < a by omega)]; rfl
theorem rr_run (zs : List Int) (s a : Int) : F_ Tryz.prog [] Tryz.f36 [] [] 99 [st zs, vi s, vi a] noMem =
    bif outR s a then some (.ret (vi 0) ⟨[], 99⟩ true)
    else some (.ret (vi ((expl 224 zs).getD (svI s a) 0)) ⟨[], 99⟩ (conj [decide (0 ≤ s), decide (s.toNat < 32), decide (0 ≤ a), decide (a.toNat < 7), decide (svI s a < 224)])) := by kernel_rfl
def e_rr : Spec := fun _ args => match args with
  | [.agg cs, .val (.int .i64 s), .val (.int .i64 a)] => match stateOf cs with
    | some zs => some (vi (rchF zs s a), none, [])
    | none => none
  | _ => none
theorem ok_rr : SpecOk Tryz.prog 36 e_rr := fun m args v mo bs h hb => by
  unfold e_rr at h
  split at h
  · rename_i cs s a
    split at h <;> cases h
    rename_i zs hz
    obtain ⟨e, hl⟩ := stateOf_eq hz
    have g : F_ Tryz.prog [] Tryz.f36 [] [] 99 [st zs, vi s, vi a] noMem = some (.ret (vi (rchF zs s a)) ⟨[], 99⟩ true) := by
      rw [rr_run, outR_is, expl_whole hl]
      unfold rchF
      cases hs : survive_is_0 s a with
      | false => rfl
      | true =>
        obtain ⟨⟨h1, h2⟩, h3, h4⟩ := is_iff.1 hs
        have := svI_lt hs
        rw [decide_eq_true h1, decide_eq_true (show s.toNat < 32 by omega), decide_eq_true h3, decide_eq_true (show a.toNat < 7 by omega), decide_eq_true this]
        rfl
    rw [e]
    exact pure_fn (c := bodyOf Tryz.f36) env_nil mixedP (fun xs w => Tryz.call36 xs w) Tryz.func36 rfl g (by simp only [AV.grounds, st_ground zs hl]; rfl) rfl
  · cases h
abbrev L_rr : List (FuncId × Spec) := [(36, e_rr)]
theorem hE_rr : ESound Tryz.prog (envOf L_rr) := env_cons ok_rr env_nil
-- Half, Died, Row, See
def e_is2 : Spec := fun _ args => match args with
  | [.val (.int .i64 s), .val (.int .i64 a)] => some (vb (bif decide (0 ≤ a) then decide (a < 7) else false), none, [decide (0 ≤ s), decide (s < 32)])
  | _ => none
theorem ok_is2 : SpecOk Tryz.prog 25 e_is2 := fun m args v mo bs h hb => by
  unfold e_is2 at h
  split at h
  · rename_i s a
    cases h
    simp only [List.all_cons, List.all_nil, id, Bool.and_true, Bool.and_eq_true, decide_eq_true_eq] at hb
    have e : survive_is_0 s a = (bif decide (0 ≤ a) then decide (a < 7) else false) := by
      unfold survive_is_0
      rw [decide_eq_true hb.1, decide_eq_true hb.2]
      cases decide (0 ≤ a) <;> rfl
    rw [← e]
    exact pure_fn (c := bodyOf Tryz.f25) hE_census_Of mixedP (fun xs w => Tryz.call25 xs w) Tryz.func25 rfl (t_survive_is _ _) rfl rfl
  · cases h
abbrev L_h : List (FuncId × Spec) := [(58, e_rch), (25, e_is2)]
theorem hE_h : ESound Tryz.prog (envOf L_h) := env_cons ok_rch (env_cons ok_is2 env_nil)
abbrev svR (zs : List Int) : Nat × Option ABlk := (0, some ⟨false, false, .col (.ints .i64 zs)⟩)
/-- The first test that fails. -/
def hT (c : Nat → Bool) : Int := (bif c 0 then (bif c 1 then (bif c 2 then (bif c 3 then (bif c 4 then (bif c 5 then 6 else 5) else 4) else 3) else 2) else 1) else 0)
def cH (zs : List Int) (s : Int) (k : Nat) : Bool := decide (IntKind.i64.wrap (rchF zs s 0 - zs.getD (svI s ((k + 1 : Nat) : Int)) 0) ≤ zs.getD (svI s ((k + 1 : Nat) : Int)) 0)
def cR (zs : List Int) (s : Int) (k : Nat) : Bool := decide (rchF zs s 0 ≤ IntKind.i64.wrap (2 * zs.getD (svI s ((k + 1 : Nat) : Int)) 0))
def halfF (zs : List Int) (s : Int) : Int := bif rchF zs s 0 == 0 then -1 else hT (cH zs s)
def rhalfF (zs : List Int) (s : Int) : Int := bif rchF zs s 0 == 0 then -1 else hT (cR zs s)
theorem half_run (zs : List Int) (s : Int) : F_ Tryz.prog L_h Tryz.f38 [] [] 99 [.ptr 0 1 0 0, vi s] ⟨[svR zs], 1⟩ =
    bif rchF zs s 0 == 0 then some (.ret (vi (-1)) ⟨[], 99⟩ (conj [decide (zs.length = 225)])) else
    (bif cH zs s 0 then (bif cH zs s 1 then (bif cH zs s 2 then (bif cH zs s 3 then (bif cH zs s 4 then (bif cH zs s 5 then some (.ret (vi 6) ⟨[], 99⟩ (conj [decide (zs.length = 225), decide (0 ≤ s), decide (s < 32), false || decide (0 ≤ s), false || decide (s.toNat < 32), false || decide (svI s 1 < zs.length), false || decide (0 ≤ s), false || decide (s.toNat < 32), false || decide (svI s 1 < zs.length), decide (0 ≤ s), decide (s < 32), false || decide (0 ≤ s), false || decide (s.toNat < 32), false || decide (svI s 2 < zs.length), false || decide (0 ≤ s), false || decide (s.toNat < 32), false || decide (svI s 2 < zs.length), decide (0 ≤ s), decide (s < 32), false || decide (0 ≤ s), false || decide (s.toNat < 32), false || decide (svI s 3 < zs.length), false || decide (0 ≤ s), false || decide (s.toNat < 32), false || decide (svI s 3 < zs.length), decide (0 ≤ s), decide (s < 32), false || decide (0 ≤ s), false || decide (s.toNat < 32), false || decide (svI s 4 < zs.length), false || decide (0 ≤ s), false || decide (s.toNat < 32), false || decide (svI s 4 < zs.length), decide (0 ≤ s), decide (s < 32), false || decide (0 ≤ s), false || decide (s.toNat < 32), false || decide (svI s 5 < zs.length), false || decide (0 ≤ s), false || decide (s.toNat < 32), false || decide (svI s 5 < zs.length), decide (0 ≤ s), decide (s < 32), false || decide (0 ≤ s), false || decide (s.toNat < 32), false || decide (svI s 6 < zs.length), false || decide (0 ≤ s), false || decide (s.toNat < 32), false || decide (svI s 6 < zs.length), decide (0 ≤ s), decide (s < 32)])) else some (.ret (vi 5) ⟨[], 99⟩ (conj [decide (zs.length = 225), decide (0 ≤ s), decide (s < 32), false || decide (0 ≤ s), false || decide (s.toNat < 32), false || decide (svI s 1 < zs.length), false || decide (0 ≤ s), false || decide (s.toNat < 32), false || decide (svI s 1 < zs.length), decide (0 ≤ s), decide (s < 32), false || decide (0 ≤ s), false || decide (s.toNat < 32), false || decide (svI s 2 < zs.length), false || decide (0 ≤ s), false || decide (s.toNat < 32), false || decide (svI s 2 < zs.length), decide (0 ≤ s), decide (s < 32), false || decide (0 ≤ s), false || decide (s.toNat < 32), false || decide (svI s 3 < zs.length), false || decide (0 ≤ s), false || decide (s.toNat < 32), false || decide (svI s 3 < zs.length), decide (0 ≤ s), decide (s < 32), false || decide (0 ≤ s), false || decide (s.toNat < 32), false || decide (svI s 4 < zs.length), false || decide (0 ≤ s), false || decide (s.toNat < 32), false || decide (svI s 4 < zs.length), decide (0 ≤ s), decide (s < 32), false || decide (0 ≤ s), false || decide (s.toNat < 32), false || decide (svI s 5 < zs.length), false || decide (0 ≤ s), false || decide (s.toNat < 32), false || decide (svI s 5 < zs.length), decide (0 ≤ s), decide (s < 32), false || decide (0 ≤ s), false || decide (s.toNat < 32), false || decide (svI s 6 < zs.length), false || decide (0 ≤ s), false || decide (s.toNat < 32), false || decide (svI s 6 < zs.length)]))) else some (.ret (vi 4) ⟨[], 99⟩ (conj [decide (zs.length = 225), decide (0 ≤ s), decide (s < 32), false || decide (0 ≤ s), false || decide (s.toNat < 32), false || decide (svI s 1 < zs.length), false || decide (0 ≤ s), false || decide (s.toNat < 32), false || decide (svI s 1 < zs.length), decide (0 ≤ s), decide (s < 32), false || decide (0 ≤ s), false || decide (s.toNat < 32), false || decide (svI s 2 < zs.length), false || decide (0 ≤ s), false || decide (s.toNat < 32), false || decide (svI s 2 < zs.length), decide (0 ≤ s), decide (s < 32), false || decide (0 ≤ s), false || decide (s.toNat < 32), false || decide (svI s 3 < zs.length), false || decide (0 ≤ s), false || decide (s.toNat < 32), false || decide (svI s 3 < zs.length), decide (0 ≤ s), decide (s < 32), false || decide (0 ≤ s), false || decide (s.toNat < 32), false || decide (svI s 4 < zs.length), false || decide (0 ≤ s), false || decide (s.toNat < 32), false || decide (svI s 4 < zs.length), decide (0 ≤ s), decide (s < 32), false || decide (0 ≤ s), false || decide (s.toNat < 32), false || decide (svI s 5 < zs.length), false || decide (0 ≤ s), false || decide (s.toNat < 32), false || decide (svI s 5 < zs.length)]))) else some (.ret (vi 3) ⟨[], 99⟩ (conj [decide (zs.length = 225), decide (0 ≤ s), decide (s < 32), false || decide (0 ≤ s), false || decide (s.toNat < 32), false || decide (svI s 1 < zs.length), false || decide (0 ≤ s), false || decide (s.toNat < 32), false || decide (svI s 1 < zs.length), decide (0 ≤ s), decide (s < 32), false || decide (0 ≤ s), false || decide (s.toNat < 32), false || decide (svI s 2 < zs.length), false || decide (0 ≤ s), false || decide (s.toNat < 32), false || decide (svI s 2 < zs.length), decide (0 ≤ s), decide (s < 32), false || decide (0 ≤ s), false || decide (s.toNat < 32), false || decide (svI s 3 < zs.length), false || decide (0 ≤ s), false || decide (s.toNat < 32), false || decide (svI s 3 < zs.length), decide (0 ≤ s), decide (s < 32), false || decide (0 ≤ s), false || decide (s.toNat < 32), false || decide (svI s 4 < zs.length), false || decide (0 ≤ s), false || decide (s.toNat < 32), false || decide (svI s 4 < zs.length)]))) else some (.ret (vi 2) ⟨[], 99⟩ (conj [decide (zs.length = 225), decide (0 ≤ s), decide (s < 32), false || decide (0 ≤ s), false || decide (s.toNat < 32), false || decide (svI s 1 < zs.length), false || decide (0 ≤ s), false || decide (s.toNat < 32), false || decide (svI s 1 < zs.length), decide (0 ≤ s), decide (s < 32), false || decide (0 ≤ s), false || decide (s.toNat < 32), false || decide (svI s 2 < zs.length), false || decide (0 ≤ s), false || decide (s.toNat < 32), false || decide (svI s 2 < zs.length), decide (0 ≤ s), decide (s < 32), false || decide (0 ≤ s), false || decide (s.toNat < 32), false || decide (svI s 3 < zs.length), false || decide (0 ≤ s), false || decide (s.toNat < 32), false || decide (svI s 3 < zs.length)]))) else some (.ret (vi 1) ⟨[], 99⟩ (conj [decide (zs.length = 225), decide (0 ≤ s), decide (s < 32), false || decide (0 ≤ s), false || decide (s.toNat < 32), false || decide (svI s 1 < zs.length), false || decide (0 ≤ s), false || decide (s.toNat < 32), false || decide (svI s 1 < zs.length), decide (0 ≤ s), decide (s < 32), false || decide (0 ≤ s), false || decide (s.toNat < 32), false || decide (svI s 2 < zs.length), false || decide (0 ≤ s), false || decide (s.toNat < 32), false || decide (svI s 2 < zs.length)]))) else some (.ret (vi 0) ⟨[], 99⟩ (conj [decide (zs.length = 225), decide (0 ≤ s), decide (s < 32), false || decide (0 ≤ s), false || decide (s.toNat < 32), false || decide (svI s 1 < zs.length), false || decide (0 ≤ s), false || decide (s.toNat < 32), false || decide (svI s 1 < zs.length)]))) := by kernel_rfl
theorem rhalf_run (zs : List Int) (s : Int) : F_ Tryz.prog L_rr Tryz.f18 [] [] 99 [st zs, vi s] noMem =
    bif rchF (expl 224 zs) s 0 == 0 then some (.ret (vi (-1)) ⟨[], 99⟩ true) else
    (bif cR (expl 224 zs) s 0 then (bif cR (expl 224 zs) s 1 then (bif cR (expl 224 zs) s 2 then (bif cR (expl 224 zs) s 3 then (bif cR (expl 224 zs) s 4 then (bif cR (expl 224 zs) s 5 then some (.ret (vi 6) ⟨[], 99⟩ (conj [false || decide (0 ≤ s), false || decide (s.toNat < 32), false || decide (svI s 1 < 224), false || decide (0 ≤ s), false || decide (s.toNat < 32), false || decide (svI s 2 < 224), false || decide (0 ≤ s), false || decide (s.toNat < 32), false || decide (svI s 3 < 224), false || decide (0 ≤ s), false || decide (s.toNat < 32), false || decide (svI s 4 < 224), false || decide (0 ≤ s), false || decide (s.toNat < 32), false || decide (svI s 5 < 224), false || decide (0 ≤ s), false || decide (s.toNat < 32), false || decide (svI s 6 < 224)])) else some (.ret (vi 5) ⟨[], 99⟩ (conj [false || decide (0 ≤ s), false || decide (s.toNat < 32), false || decide (svI s 1 < 224), false || decide (0 ≤ s), false || decide (s.toNat < 32), false || decide (svI s 2 < 224), false || decide (0 ≤ s), false || decide (s.toNat < 32), false || decide (svI s 3 < 224), false || decide (0 ≤ s), false || decide (s.toNat < 32), false || decide (svI s 4 < 224), false || decide (0 ≤ s), false || decide (s.toNat < 32), false || decide (svI s 5 < 224), false || decide (0 ≤ s), false || decide (s.toNat < 32), false || decide (svI s 6 < 224)]))) else some (.ret (vi 4) ⟨[], 99⟩ (conj [false || decide (0 ≤ s), false || decide (s.toNat < 32), false || decide (svI s 1 < 224), false || decide (0 ≤ s), false || decide (s.toNat < 32), false || decide (svI s 2 < 224), false || decide (0 ≤ s), false || decide (s.toNat < 32), false || decide (svI s 3 < 224), false || decide (0 ≤ s), false || decide (s.toNat < 32), false || decide (svI s 4 < 224), false || decide (0 ≤ s), false || decide (s.toNat < 32), false || decide (svI s 5 < 224)]))) else some (.ret (vi 3) ⟨[], 99⟩ (conj [false || decide (0 ≤ s), false || decide (s.toNat < 32), false || decide (svI s 1 < 224), false || decide (0 ≤ s), false || decide (s.toNat < 32), false || decide (svI s 2 < 224), false || decide (0 ≤ s), false || decide (s.toNat < 32), false || decide (svI s 3 < 224), false || decide (0 ≤ s), false || decide (s.toNat < 32), false || decide (svI s 4 < 224)]))) else some (.ret (vi 2) ⟨[], 99⟩ (conj [false || decide (0 ≤ s), false || decide (s.toNat < 32), false || decide (svI s 1 < 224), false || decide (0 ≤ s), false || decide (s.toNat < 32), false || decide (svI s 2 < 224), false || decide (0 ≤ s), false || decide (s.toNat < 32), false || decide (svI s 3 < 224)]))) else some (.ret (vi 1) ⟨[], 99⟩ (conj [false || decide (0 ≤ s), false || decide (s.toNat < 32), false || decide (svI s 1 < 224), false || decide (0 ≤ s), false || decide (s.toNat < 32), false || decide (svI s 2 < 224)]))) else some (.ret (vi 0) ⟨[], 99⟩ (conj [false || decide (0 ≤ s), false || decide (s.toNat < 32), false || decide (svI s 1 < 224)]))) := by kernel_rfl
theorem rch_ne {zs : List Int} {s a : Int} (h : (rchF zs s a == 0) = false) : survive_is_0 s a = true := by
  cases hs : survive_is_0 s a with
  | true => rfl
  | false => rw [rchF, hs] at h; cases h
theorem half_val (zs : List Int) (s : Int) (hz : zs.length = 225) : F_ Tryz.prog L_h Tryz.f38 [] [] 99 [.ptr 0 1 0 0, vi s] ⟨[svR zs], 1⟩ = some (.ret (vi (halfF zs s)) ⟨[], 99⟩ true) := by
  rw [half_run]
  unfold halfF
  cases h0 : rchF zs s 0 == 0 with
  | true => rw [decide_eq_true hz]; rfl
  | false =>
    obtain ⟨⟨h1, h2⟩, _⟩ := is_iff.1 (rch_ne h0)
    have hv : ∀ j : Nat, j ≤ 6 → decide (svI s (j : Int) < zs.length) = true := fun j hj => decide_eq_true (by
      obtain ⟨x, rfl⟩ := Int.eq_ofNat_of_zero_le h1
      rw [svI_nat]; omega)
    have v1 := hv 1 (by omega)
    have v2 := hv 2 (by omega)
    have v3 := hv 3 (by omega)
    have v4 := hv 4 (by omega)
    have v5 := hv 5 (by omega)
    have v6 := hv 6 (by omega)
    have e1 : decide (0 ≤ s) = true := decide_eq_true h1
    have e2 : decide (s < 32) = true := decide_eq_true h2
    have e3 : decide (s.toNat < 32) = true := decide_eq_true (by omega)
    have e4 := decide_eq_true hz
    unfold hT
    generalize cH zs s = c
    simp only [cond_false]
    simp only [Int.cast_ofNat_Int] at v1 v2 v3 v4 v5 v6
    rw [v1, e1, e2, e3, e4]
    cases c 0 with
    | false => rfl
    | true =>
      rw [v2]
      cases c 1 with
      | false => rfl
      | true =>
        rw [v3]
        cases c 2 with
        | false => rfl
        | true =>
          rw [v4]
          cases c 3 with
          | false => rfl
          | true =>
            rw [v5]
            cases c 4 with
            | false => rfl
            | true =>
              rw [v6]
              cases c 5 <;> rfl
theorem rhalf_val (zs : List Int) (s : Int) (hz : zs.length = 224) : F_ Tryz.prog L_rr Tryz.f18 [] [] 99 [st zs, vi s] noMem = some (.ret (vi (rhalfF zs s)) ⟨[], 99⟩ true) := by
  rw [rhalf_run, expl_whole hz]
  unfold rhalfF
  cases h0 : rchF zs s 0 == 0 with
  | true => rfl
  | false =>
    obtain ⟨⟨h1, h2⟩, _⟩ := is_iff.1 (rch_ne h0)
    have hv : ∀ j : Nat, j ≤ 6 → decide (svI s (j : Int) < 224) = true := fun j hj => decide_eq_true (by
      obtain ⟨x, rfl⟩ := Int.eq_ofNat_of_zero_le h1
      rw [svI_nat]; omega)
    have v1 := hv 1 (by omega)
    have v2 := hv 2 (by omega)
    have v3 := hv 3 (by omega)
    have v4 := hv 4 (by omega)
    have v5 := hv 5 (by omega)
    have v6 := hv 6 (by omega)
    have e1 : decide (0 ≤ s) = true := decide_eq_true h1
    have e3 : decide (s.toNat < 32) = true := decide_eq_true (by omega)
    unfold hT
    generalize cR zs s = c
    simp only [cond_false]
    simp only [Int.cast_ofNat_Int] at v1 v2 v3 v4 v5 v6
    rw [v1, e1, e3]
    cases c 0 with
    | false => rfl
    | true =>
      rw [v2]
      cases c 1 with
      | false => rfl
      | true =>
        rw [v3]
        cases c 2 with
        | false => rfl
        | true =>
          rw [v4]
          cases c 3 with
          | false => rfl
          | true =>
            rw [v5]
            cases c 4 with
            | false => rfl
            | true =>
              rw [v6]
              cases c 5 <;> rfl
def e_half : Spec := fun m args => match args with
  | [.ptr l 1 0 0, .val (.int .i64 s)] => match look m.bl l with
    | some ⟨_, _, .col (.ints .i64 zs)⟩ => some (vi (halfF zs s), none, [decide (zs.length = 225)])
    | _ => none
  | _ => none
theorem ok_half : SpecOk Tryz.prog 38 e_half := fun m args v mo bs h hb => by
  unfold e_half at h
  split at h
  · rename_i l s
    split at h <;> cases h
    rename_i _ op zs hl
    have hz : zs.length = 225 := by simpa using hb
    exact lift_p (ar := []) (br := [vi s]) hl rfl (fsound (c := bodyOf Tryz.f38) (fun xs w => Tryz.call38 xs w) Tryz.func38 rfl (F_ret hE_h mixedP rfl rfl (half_val zs s hz))) rfl rfl rfl rfl
  · cases h
def e_rhalf : Spec := fun _ args => match args with
  | [.agg cs, .val (.int .i64 s)] => match stateOf cs with
    | some zs => some (vi (rhalfF zs s), none, [])
    | none => none
  | _ => none
theorem ok_rhalf : SpecOk Tryz.prog 18 e_rhalf := fun m args v mo bs h hb => by
  unfold e_rhalf at h
  split at h
  · rename_i cs s
    split at h <;> cases h
    rename_i zs hz
    obtain ⟨e, hl⟩ := stateOf_eq hz
    rw [e]
    exact pure_fn (c := bodyOf Tryz.f18) hE_rr mixedP (fun xs w => Tryz.call18 xs w) Tryz.func18 rfl (rhalf_val zs s hl) (by simp only [AV.grounds, st_ground zs hl]; rfl) rfl
  · cases h
-- Died
def outD (s a : Int) : Bool := bif bif bif decide (s < 0) then true else decide (31 < s) then true else decide (a < -1) then true else decide (5 < a)
def rdF (zs : List Int) (s a : Int) : Int := bif outD s a then 0 else IntKind.i64.wrap (rchF zs s a - rchF zs s (IntKind.i64.wrap (a + 1)))
def e_rd : Spec := fun _ args => match args with
  | [.agg cs, .val (.int .i64 s), .val (.int .i64 a)] => match stateOf cs with
    | some zs => some (vi (rdF zs s a), none, [])
    | none => none
  | _ => none
end Go.Proofs.YtbjealobiblabaaGreatDoor

namespace Go.Proofs.YtbjealobiblabaaGreatDoor
open Go Go.RowKit
set_option maxRecDepth 100000
theorem conj_tt : ∀ {l : List Bool}, l.all id = true → conj l = true
  | [], _ => rfl
  | b :: r, h => by
    obtain ⟨h1, h2⟩ := all_cons h
    have h1 : b = true := h1
    rw [conj, h1, conj_tt h2]; rfl
-- See
def rowP (e : KV) : Bool := bif decide (1 ≤ kC e) then decide (kC e ≤ 6) else false
def rseeF : List Int → List KV → List Int
  | zs, [] => zs
  | zs, e :: l => rseeF (bif rowP e then zs.set (svI (kA e) (kC e)) (IntKind.i64.wrap (zs.getD (svI (kA e) (kC e)) 0 + kD e)) else zs) l
theorem rseeF_len : ∀ (l : List KV) (zs : List Int), (rseeF zs l).length = zs.length
  | [], _ => rfl
  | e :: l, zs => by
    rw [rseeF, rseeF_len l]
    cases rowP e <;> simp
/-- Rows that are counted lie at a site. -/
def rowsOk (l : List KV) : Bool := l.all fun e => !rowP e || decide (0 ≤ kA e ∧ kA e < 32)
abbrev rsC (a : Nat) : List Cut := [(2,[1,2,4,5],[0,1,2],a)]
abbrev rsT (n : Nat) (i : Int) : List AV := [.unk, .sl false 0 5 0 1 n none, .ptr 1 1 0 0, .unk, .ptr 2 1 0 0, vi i] ++ List.replicate 52 .unk
abbrev rsM (zs z0 : List Int) (l : List KV) (nx : Nat) : MS := ⟨[(0, some ⟨false, false, .rows (colsF fs5 l)⟩), (1, some ⟨true, false, .col (.ints .i64 zs)⟩), (2, some ⟨true, false, .col (.ints .i64 z0)⟩)], nx⟩
theorem rs_in (zs : List Int) (l : List KV) (n : Nat) : F_ Tryz.prog [] Tryz.f13 (rsC 9) [] 99 [st zs, .sl false 0 5 0 1 n none] ⟨[(0, some ⟨false, false, .rows (colsF fs5 l)⟩)], 1⟩ = some (.head (hd Tryz.f13 0) (rsT n 0) (rsM (expl 224 zs) (List.replicate 224 0) l 9) true) := by kernel_rfl
theorem rs_end (zs z0 : List Int) (l : List KV) (n : Nat) (i : Int) : HO_ Tryz.prog [] Tryz.f13 (rsC 9) [] 99 [0] (hd Tryz.f13 0) (rsT n i) (rsM zs z0 l 3) = some (.ret (st (expl 224 zs)) ⟨[], 99⟩ (conj [!decide (i < Int.ofNat n), decide (zs.length = 224), decide (z0.length = (expl 224 zs).length), decide ((expl 224 zs).length = 224)])) := by kernel_rfl
theorem rs_no (zs z0 : List Int) (l : List KV) (n : Nat) (i : Int) : HO_ Tryz.prog [] Tryz.f13 (rsC 9) [] 99 [1, 0] (hd Tryz.f13 0) (rsT n i) (rsM zs z0 l 3) = some (.head (hd Tryz.f13 0) (rsT n (up1 i)) (rsM zs z0 l 9) (conj [decide (i < Int.ofNat n), decide (0 ≤ i), decide (i.toNat < n), decide (iz i < (l.map kC).length), !decide (1 ≤ (l.map kC).getD (iz i) 0) || decide (0 ≤ i), !decide (1 ≤ (l.map kC).getD (iz i) 0) || decide (i.toNat < n), !decide (1 ≤ (l.map kC).getD (iz i) 0) || decide (iz i < (l.map kC).length), !(bif decide (1 ≤ (l.map kC).getD (iz i) 0) then decide ((l.map kC).getD (iz i) 0 ≤ 6) else false)])) := by kernel_rfl
theorem rs_yes (zs z0 : List Int) (l : List KV) (n : Nat) (i : Int) : HO_ Tryz.prog [] Tryz.f13 (rsC 9) [] 99 [1, 1] (hd Tryz.f13 0) (rsT n i) (rsM zs z0 l 3) = some (.head (hd Tryz.f13 0) (rsT n (up1 i)) (rsM (zs.set (svI ((l.map kA).getD (iz i) 0) ((l.map kC).getD (iz i) 0)) (IntKind.i64.wrap (zs.getD (svI ((l.map kA).getD (iz i) 0) ((l.map kC).getD (iz i) 0)) 0 + (l.map kD).getD (iz i) 0))) z0 l 9) (conj [decide (i < Int.ofNat n), decide (0 ≤ i), decide (i.toNat < n), decide (iz i < (l.map kC).length), !decide (1 ≤ (l.map kC).getD (iz i) 0) || decide (0 ≤ i), !decide (1 ≤ (l.map kC).getD (iz i) 0) || decide (i.toNat < n), !decide (1 ≤ (l.map kC).getD (iz i) 0) || decide (iz i < (l.map kC).length), (bif decide (1 ≤ (l.map kC).getD (iz i) 0) then decide ((l.map kC).getD (iz i) 0 ≤ 6) else false), decide (0 ≤ i), decide (i.toNat < n), decide (iz i < (l.map kA).length), decide (0 ≤ i), decide (i.toNat < n), decide (iz i < (l.map kC).length), decide (0 ≤ i), decide (i.toNat < n), decide (iz i < (l.map kA).length), decide (0 ≤ i), decide (i.toNat < n), decide (iz i < (l.map kC).length), decide (0 ≤ (l.map kA).getD (iz i) 0), decide (((l.map kA).getD (iz i) 0).toNat < 32), decide (0 ≤ (l.map kC).getD (iz i) 0), decide (((l.map kC).getD (iz i) 0).toNat < 7), decide (svI ((l.map kA).getD (iz i) 0) ((l.map kC).getD (iz i) 0) < zs.length), decide (0 ≤ i), decide (i.toNat < n), decide (iz i < (l.map kD).length), decide (0 ≤ (l.map kA).getD (iz i) 0), decide (((l.map kA).getD (iz i) 0).toNat < 32), decide (0 ≤ (l.map kC).getD (iz i) 0), decide (((l.map kC).getD (iz i) 0).toNat < 7), decide (svI ((l.map kA).getD (iz i) 0) ((l.map kC).getD (iz i) 0) < zs.length)])) := by kernel_rfl
theorem rs_loop (z0 : List Int) (h0 : z0.length = 224) (l : List KV) (hn : l.length ≤ 4096) (hok : rowsOk l = true) : ∀ (j i : Nat) (zs : List Int), i + j = l.length → zs.length = 224 → Gives_ Tryz.prog Tryz.f13 1 ⟨hd Tryz.f13 0, rsT l.length (i : Int), rsM zs z0 l 3⟩ (st (rseeF zs (l.drop i))) ⟨[], 99⟩
  | 0, i, zs, hi, hz => by
    have h := rs_end zs z0 l l.length (i : Int)
    rw [expl_whole hz, hz, h0, decide_eq_false (show ¬ (i : Int) < Int.ofNat l.length by show ¬ (i : Int) < (l.length : Int); omega)] at h
    rw [List.drop_of_length_le (by omega)]
    exact HO_ret env_nil mixedP rfl h rfl
  | j + 1, i, zs, hi, hz => by
    have hlt : i < l.length := by omega
    have eA : ∀ f : KV → Int, (l.map f).length = l.length := fun f => List.length_map ..
    have q1 : decide (0 ≤ (i : Int)) = true := decide_eq_true (by omega)
    have q2 : decide ((i : Int).toNat < l.length) = true := decide_eq_true (by omega)
    have q3 : ∀ f : KV → Int, decide (iz (i : Int) < (l.map f).length) = true := fun f => decide_eq_true (by rw [eA, iz_nat]; exact hlt)
    have q4 : decide ((i : Int) < Int.ofNat l.length) = true := decide_eq_true (by show (i : Int) < (l.length : Int); omega)
    have wA : (l.map kA).getD (iz (i : Int)) 0 = kA l[i] := mapD kA hlt
    have wC : (l.map kC).getD (iz (i : Int)) 0 = kC l[i] := mapD kC hlt
    have wD : (l.map kD).getD (iz (i : Int)) 0 = kD l[i] := mapD kD hlt
    rw [List.drop_eq_getElem_cons hlt, rseeF]
    cases hc : rowP l[i] with
    | true =>
      have hs : 0 ≤ kA l[i] ∧ kA l[i] < 32 := by
        have := List.all_eq_true.1 hok l[i] (List.getElem_mem hlt)
        rw [hc] at this
        exact of_decide_eq_true (by simpa using this)
      have hcc : 1 ≤ kC l[i] ∧ kC l[i] ≤ 6 := by
        unfold rowP at hc
        by_cases h1 : 1 ≤ kC l[i]
        · rw [decide_eq_true h1, cond_true] at hc; exact ⟨h1, of_decide_eq_true hc⟩
        · rw [decide_eq_false h1] at hc; cases hc
      have hx : svI (kA l[i]) (kC l[i]) < zs.length := by rw [hz]; exact svI_lt (is_iff.2 ⟨hs, by omega, by omega⟩)
      have h := rs_yes zs z0 l l.length (i : Int)
      simp only [wA, wC, wD] at h
      rw [conj_tt (by simp only [q1, q2, q3, q4, decide_eq_true hs.1, decide_eq_true hcc.1, decide_eq_true hcc.2, decide_eq_true (show (kA l[i]).toNat < 32 by omega), decide_eq_true (show 0 ≤ kC l[i] by omega), decide_eq_true (show (kC l[i]).toNat < 7 by omega), decide_eq_true hx]; rfl), up1_nat (by omega)] at h
      exact Goes.gives ((HO_head env_nil mixedP rfl h rfl).trans (Goes.ren (P := Tryz.prog) (B := 1) (σ := [(0, 0), (1, 1), (2, 2)]) (nx := 3) rfl)) (rs_loop z0 h0 l hn hok j (i + 1) _ (by omega) (by rw [List.length_set]; exact hz))
    | false =>
      have h := rs_no zs z0 l l.length (i : Int)
      simp only [wA, wC, wD] at h
      have hc' : (bif decide (1 ≤ kC l[i]) then decide (kC l[i] ≤ 6) else false) = false := hc
      rw [conj_tt (by simp only [q1, q2, q3, q4, hc', Bool.or_true]; rfl), up1_nat (by omega)] at h
      exact Goes.gives ((HO_head env_nil mixedP rfl h rfl).trans (Goes.ren (P := Tryz.prog) (B := 1) (σ := [(0, 0), (1, 1), (2, 2)]) (nx := 3) rfl)) (rs_loop z0 h0 l hn hok j (i + 1) zs (by omega) hz)
theorem rs_all (zs : List Int) (l : List KV) (hz : zs.length = 224) (hn : l.length ≤ 4096) (hok : rowsOk l = true) : Gives_ Tryz.prog Tryz.f13 1 (enterA Tryz.f13 (bodyOf Tryz.f13) [st zs, .sl false 0 5 0 1 l.length none] ⟨[(0, some ⟨false, false, .rows (colsF fs5 l)⟩)], 1⟩) (st (rseeF zs l)) ⟨[], 99⟩ := by
  have h := rs_in zs l l.length
  have g := rs_loop (List.replicate 224 0) rfl l hn hok l.length 0 zs (by omega) hz
  rw [expl_whole hz] at h
  rw [List.drop_zero] at g
  exact Goes.gives ((F_head (f := Tryz.f13) (c := bodyOf Tryz.f13) (m := ⟨[(0, some ⟨false, false, .rows (colsF fs5 l)⟩)], 1⟩) (cuts := rsC 9) (ns := []) (top := 99) env_nil mixedP rfl rfl h).trans (Goes.ren (P := Tryz.prog) (B := 1) (σ := [(0, 0), (1, 1), (2, 2)]) (nx := 3) rfl)) g
/-- Rows that are the rows l. -/
def e_rsee (l : List KV) : Spec := fun m args => match args with
  | [.agg cs, .sl _ b 5 0 1 n _] => match stateOf cs with
    | some zs => match look m.bl b with
      | some ⟨_, _, .rows [.ints .i64 c0, .ints .i64 c1, .ints .i64 c2, .ints .i64 c3, .ints .i64 c4]⟩ => some (st (rseeF zs l), none, [Nat.ble l.length 4096, decide (n = l.length), decide (c0 = l.map kA), decide (c1 = l.map kB), decide (c2 = l.map kC), decide (c3 = l.map kD), decide (c4 = l.map kE), rowsOk l])
      | _ => none
    | none => none
  | _ => none
theorem ok_rsee (l : List KV) : SpecOk Tryz.prog 13 (e_rsee l) := fun m args v mo bs h hb => by
  unfold e_rsee at h
  split at h
  · rename_i cs nn b n c
    split at h <;> try cases h
    rename_i zs hz
    split at h <;> cases h
    rename_i _ _ _ c0 c1 c2 c3 c4 hl
    obtain ⟨e, hzl⟩ := stateOf_eq hz
    simp only [List.all_cons, List.all_nil, id, Bool.and_true, Bool.and_eq_true, decide_eq_true_eq] at hb
    obtain ⟨h1, h2, e0, e1, e2, e3, e4, hok⟩ := hb
    subst h2 e0 e1 e2 e3 e4
    rw [e]
    refine lift_pure (m1 := ⟨[(0, some ⟨false, false, .rows (colsF fs5 l)⟩)], 1⟩) (args1 := [st zs, .sl false 0 5 0 1 l.length none]) (fsound (c := bodyOf Tryz.f13) (fun xs w => Tryz.call13 xs w) Tryz.func13 rfl (rs_all zs l hzl (Nat.le_of_ble_eq_true h1) hok)) rfl (st_ground _ (by rw [rseeF_len]; exact hzl)) fun ρ w xs hm hx => ?_
    have hx' : AV.rels ρ m.nx ([st zs] ++ [.sl nn b 5 0 1 l.length c]) xs := hx
    obtain ⟨ys, zs', rfl, g1, g2⟩ := hx'.split
    obtain ⟨ρ1, hm1, hx1⟩ := sim_sl (br := []) hl rfl rfl rfl ρ w zs' hm g2
    exact ⟨ρ1, hm1, AV.rels.append (AV.grounds_rels _ _ (by simp only [AV.grounds, st_ground zs hzl]; rfl) g1) hx1⟩
  · cases h
-- Row
abbrev rowI (s : Int) : Nat := addN (addN 0 (mulN s.toNat 7)) 0
def rowL (zs : List Int) (s : Int) : List Int := List.take 7 (zs.drop (rowI s))
/-- A site that may be. -/
def e_rowI : Spec := fun m args => match args with
  | [.ptr l 1 0 0, .val (.int .i64 s)] => match look m.bl l with
    | some ⟨_, _, .col (.ints .i64 zs)⟩ => some (.sl true m.nx 1 0 1 7 none, some ⟨(m.nx, some ⟨true, true, .col (.ints .i64 (rowL zs s))⟩) :: m.bl, m.nx + 1⟩, [Nat.blt l m.nx, decide (zs.length = 225), decide (0 ≤ s), decide (s < 32)])
    | _ => none
  | _ => none
/-- A site that may not be. -/
def e_rowO : Spec := fun m args => match args with
  | [.ptr l 1 0 0, .val (.int .i64 s)] => match look m.bl l with
    | some ⟨_, _, .col (.ints .i64 zs)⟩ => some (.val (.slice none 0 0), none, [!survive_is_0 s 0])
    | _ => none
  | _ => none
def e_same7 : Spec := fun m args => match args with
  | [.sl _ l 1 0 1 7 _, .sl _ l' 1 r 1 7 _] => match look m.bl l, look m.bl l' with
    | some ⟨_, _, .col (.ints .i64 xs)⟩, some ⟨_, _, .col (.ints .i64 ys)⟩ => some (vb true, none, [decide (xs = (ys.drop r).take 7), Nat.ble (r + 7) ys.length])
    | _, _ => none
  | _ => none
end Go.Proofs.YtbjealobiblabaaGreatDoor
