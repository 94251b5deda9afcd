/-
  A contract that hands back a new slice, or none, beside plain values: in any memory.
-/
import Derived.Test.YtnkpegdmbocgaaaDoorExG
namespace Go.Proofs.YtnkpegdmbocgaaaDoor
open Go Go.RowKit
section
variable {P : Program}
/-- A name for what is handed back. -/
theorem name_slice {ρ ρ1 : Rho} {m : MS} {w w' : World} {c : Cont} {n wd s cp : Nat} {i : LI} {A : Option Addr} (hm : MRel ρ m w) (hg : c.ground = true) (hpl : c.plain = true) (ho : w'.os = w.os) (ht : w'.tape = w.tape) (hout : w'.output = w.output) (hsz : w.heap.size ≤ w'.heap.size) (hk : ∀ g, g < w.heap.size → w'.heap[g]? = w.heap[g]?)
    (hfr : w.heap.size ≤ i.b ∨ (⟨false, false, c⟩ : ABlk).void) (hok : (⟨false, false, c⟩ : ABlk).ok ρ1 0 i w') (hnc : n ≤ cp) (hA : 0 < n → A = some ⟨i.b, i.o + 0 * wd, none⟩) (hcap : 0 * wd + cp * (s * wd) ≤ i.cap) :
    ∃ ρ', AV.rel ρ' (m.nx + 1) (.sl false m.nx wd 0 s n none) (.slice A n cp) ∧ MRel ρ' ⟨(m.nx, some ⟨false, false, c⟩) :: m.bl, m.nx + 1⟩ w' ∧ Moves m.nx ρ ρ' m ⟨(m.nx, some ⟨false, false, c⟩) :: m.bl, m.nx + 1⟩ w w' := by
  have hext : ∀ l, l < m.nx → (ρ.new m.nx i) l = ρ l := fun l hl => by unfold Rho.new; rw [if_neg (by omega)]
  have hself : (ρ.new m.nx i) m.nx = i := by simp [Rho.new]
  have key : ∀ l b', look ((m.nx, some (⟨false, false, c⟩ : ABlk)) :: m.bl) l = some b' → (l = m.nx ∧ b' = ⟨false, false, c⟩) ∨ (l < m.nx ∧ look m.bl l = some b') := fun l b' hl => by
    rw [look_cons] at hl
    split at hl
    · rename_i e; cases hl; exact .inl ⟨e.symm, rfl⟩
    · exact .inr ⟨(hm.blk l b' hl).1, hl⟩
  refine ⟨ρ.new m.nx i, ?_, ⟨fun l b' hl => ?_, fun l b1 l' b2 h1 h2 hw1 hne hnv => ?_⟩, ⟨hext, Nat.le_succ _, ho, ht, hout, hsz, fun g hg _ => hk g hg, fun g ⟨l, b', h1, h2, h3⟩ => ?_⟩⟩
  · simp only [AV.rel]
    rw [hself]
    exact ⟨Nat.lt_succ_self _, A, cp, rfl, hnc, hA, (fun h => by cases h), hcap⟩
  · rcases key l b' hl with ⟨rfl, rfl⟩ | ⟨hlt, hl⟩
    · refine ⟨Nat.lt_succ_self _, ?_⟩
      rw [hself]
      exact ⟨hok.lt, Cont.rel_ground hg hok.rel, hok.free, hok.room, fun q hq => absurd hq (Cont.plain_ne hpl q)⟩
    · refine ⟨Nat.lt_succ_of_lt hlt, ?_⟩
      rw [hext l hlt]
      have h2 := (hm.blk l b' hl).2
      rcases h2.lt with hlt' | hv
      · exact h2.ext hext (Nat.le_succ _) hsz (hk _ hlt')
      · exact ABlk.ok.any hv _
  · rcases key l b1 h1 with ⟨rfl, rfl⟩ | ⟨hlt, hl⟩
    · cases hw1
    · rw [hext l hlt]
      rcases key l' b2 h2 with ⟨rfl, rfl⟩ | ⟨hlt', hl'⟩
      · rw [hself]
        have := (hm.blk l b1 hl).2.lt.resolve_right (wr_not_void hw1)
        have h3 := hfr.resolve_right hnv
        omega
      · rw [hext l' hlt']
        exact hm.apart l b1 l' b2 hl hl' hw1 hne hnv
  · rcases key l b' h1 with ⟨rfl, rfl⟩ | ⟨hlt, hl⟩
    · cases h2
    · rw [hext l hlt] at h3
      exact .inl ⟨l, b', hl, h2, h3⟩
theorem name_nil {ρ : Rho} {m : MS} {w w' : World} {c : Cont} {wd s : Nat} (hm : MRel ρ m w) (hg : c.ground = true) (hpl : c.plain = true) (hv : ∀ r c' a, c.at r c' ≠ some (a, true)) (ho : w'.os = w.os) (ht : w'.tape = w.tape) (hout : w'.output = w.output) (hsz : w.heap.size ≤ w'.heap.size) (hk : ∀ g, g < w.heap.size → w'.heap[g]? = w.heap[g]?) :
    ∃ ρ', AV.rel ρ' (m.nx + 1) (.sl false m.nx wd 0 s 0 none) (.slice none 0 0) ∧ MRel ρ' ⟨(m.nx, some ⟨false, false, c⟩) :: m.bl, m.nx + 1⟩ w' ∧ Moves m.nx ρ ρ' m ⟨(m.nx, some ⟨false, false, c⟩) :: m.bl, m.nx + 1⟩ w w' :=
  have hvoid : (⟨false, false, c⟩ : ABlk).void := ⟨rfl, rfl, Cont.plain_ne hpl, hv⟩
  name_slice (ρ1 := ρ) (i := ⟨0, 0, 0⟩) hm hg hpl ho ht hout hsz hk (.inr hvoid) (ABlk.ok.any hvoid _) (Nat.le_refl _) (fun h => by omega) (by simp)
theorem name_new {ρ ρ1 ρ2 : Rho} {m m1 : MS} {w w' : World} {c : Cont} {k top wd s n cp : Nat} {A : Option Addr} (hm : MRel ρ m w) (hnw : ∀ g, ¬ Wr ρ1 m1 g) (hg : c.ground = true) (hpl : c.plain = true) (hm2 : MRel ρ2 ⟨[(k, some ⟨true, true, c⟩)], top⟩ w') (mv : Moves m1.nx ρ1 ρ2 m1 ⟨[(k, some ⟨true, true, c⟩)], top⟩ w w') (hnc : n ≤ cp) (hA : 0 < n → A = some ⟨(ρ2 k).b, (ρ2 k).o + 0 * wd, none⟩) (hcap : 0 * wd + cp * (s * wd) ≤ (ρ2 k).cap) :
    ∃ ρ', AV.rel ρ' (m.nx + 1) (.sl false m.nx wd 0 s n none) (.slice A n cp) ∧ MRel ρ' ⟨(m.nx, some ⟨false, false, c⟩) :: m.bl, m.nx + 1⟩ w' ∧ Moves m.nx ρ ρ' m ⟨(m.nx, some ⟨false, false, c⟩) :: m.bl, m.nx + 1⟩ w w' := by
  obtain ⟨_, hok⟩ := hm2.blk k ⟨true, true, c⟩ (by simp [look])
  have hfr : w.heap.size ≤ (ρ2 k).b := (mv.fresh (ρ2 k).b ⟨k, ⟨true, true, c⟩, by simp [look], rfl, rfl⟩).resolve_left (hnw _)
  exact name_slice (ρ1 := ρ) (i := ρ2 k) hm hg hpl mv.os mv.tape mv.output mv.size (fun g hg => mv.keep g hg (hnw g)) (.inl hfr) ⟨.inl (hok.lt.resolve_right (wr_not_void rfl)), Cont.rel_ground hg hok.rel, (fun h => by cases h), (fun h => by cases h), fun q hq => absurd hq (Cont.plain_ne hpl q)⟩ hnc hA hcap
/-- What is handed back is a slice, for reading, nil where it is empty. -/
theorem lift_slice {f : FuncId} {m m1 : MS} {args args1 rest : List AV} {n wd s : Nat} {c : Cont} (hro : allRo m1.bl = true) (hg : c.ground = true) (hpl : c.plain = true) (hrest : AV.grounds rest = true)
    (hsim : ∀ (ρ : Rho) (w : World) (xs : List Value), MRel ρ m w → AV.rels ρ m.nx args xs → ∃ ρ1, MRel ρ1 m1 w ∧ AV.rels ρ1 m1.nx args1 xs)
    (h : (n = 0 ∧ (∀ r c' a, c.at r c' ≠ some (a, true)) ∧ ∃ m', FSound P f m1 args1 (.tup (.val (.slice none 0 0) :: rest)) m') ∨
      ∃ k top, FSound P f m1 args1 (.tup (.sl true k wd 0 s n none :: rest)) ⟨[(k, some ⟨true, true, c⟩)], top⟩) :
    FSound P f m args (.tup (.sl false m.nx wd 0 s n none :: rest)) ⟨(m.nx, some ⟨false, false, c⟩) :: m.bl, m.nx + 1⟩ := by
  intro ρ w xs hm hx
  obtain ⟨ρ1, hm1, hx1⟩ := hsim ρ w xs hm hx
  have hnw : ∀ g, ¬ Wr ρ1 m1 g := fun g ⟨l, b, h1, h2, _⟩ => by rw [allRo_look hro h1] at h2; cases h2
  rcases h with ⟨rfl, hv, m', hf⟩ | ⟨k, top, hf⟩
  · refine Went.mono (hf ρ1 w xs hm1 hx1) fun x w' ⟨ρ2, hr, hm2, mv⟩ => ?_
    simp only [AV.rel, AV.rels] at hr
    obtain ⟨_, rfl, y, ys, rfl, rfl, hys⟩ := hr
    obtain ⟨ρ', h1, h2, h3⟩ := name_nil (wd := wd) (s := s) hm hg hpl hv mv.os mv.tape mv.output mv.size (fun g hg => mv.keep g hg (hnw g))
    exact ⟨ρ', by simp only [AV.rel, AV.rels] at h1 ⊢; exact ⟨_, rfl, _, _, rfl, h1, AV.grounds_rels _ _ hrest hys⟩, h2, h3⟩
  · refine Went.mono (hf ρ1 w xs hm1 hx1) fun x w' ⟨ρ2, hr, hm2, mv⟩ => ?_
    simp only [AV.rel, AV.rels] at hr
    obtain ⟨_, rfl, y, ys, rfl, ⟨hkl, A, cp, rfl, hnc, hA, hnn, hcap⟩, hys⟩ := hr
    obtain ⟨ρ', h1, h2, h3⟩ := name_new hm hnw hg hpl hm2 mv hnc hA hcap
    exact ⟨ρ', by simp only [AV.rel, AV.rels] at h1 ⊢; exact ⟨_, rfl, _, _, rfl, h1, AV.grounds_rels _ _ hrest hys⟩, h2, h3⟩
theorem lift_slice1 {f : FuncId} {m m1 : MS} {args args1 : List AV} {n wd s : Nat} {c : Cont} (hro : allRo m1.bl = true) (hg : c.ground = true) (hpl : c.plain = true)
    (hsim : ∀ (ρ : Rho) (w : World) (xs : List Value), MRel ρ m w → AV.rels ρ m.nx args xs → ∃ ρ1, MRel ρ1 m1 w ∧ AV.rels ρ1 m1.nx args1 xs)
    (h : (n = 0 ∧ (∀ r c' a, c.at r c' ≠ some (a, true)) ∧ ∃ m', FSound P f m1 args1 (.val (.slice none 0 0)) m') ∨
      ∃ k top, FSound P f m1 args1 (.sl true k wd 0 s n none) ⟨[(k, some ⟨true, true, c⟩)], top⟩) :
    FSound P f m args (.sl false m.nx wd 0 s n none) ⟨(m.nx, some ⟨false, false, c⟩) :: m.bl, m.nx + 1⟩ := by
  intro ρ w xs hm hx
  obtain ⟨ρ1, hm1, hx1⟩ := hsim ρ w xs hm hx
  have hnw : ∀ g, ¬ Wr ρ1 m1 g := fun g ⟨l, b, h1, h2, _⟩ => by rw [allRo_look hro h1] at h2; cases h2
  rcases h with ⟨rfl, hv, m', hf⟩ | ⟨k, top, hf⟩
  · refine Went.mono (hf ρ1 w xs hm1 hx1) fun x w' ⟨ρ2, hr, hm2, mv⟩ => ?_
    simp only [AV.rel] at hr
    subst hr
    exact name_nil (wd := wd) (s := s) hm hg hpl hv mv.os mv.tape mv.output mv.size (fun g hg => mv.keep g hg (hnw g)) |>.imp fun ρ' h => h
  · refine Went.mono (hf ρ1 w xs hm1 hx1) fun x w' ⟨ρ2, hr, hm2, mv⟩ => ?_
    simp only [AV.rel] at hr
    obtain ⟨hkl, A, cp, rfl, hnc, hA, hnn, hcap⟩ := hr
    exact name_new hm hnw hg hpl hm2 mv hnc hA hcap
end
end Go.Proofs.YtnkpegdmbocgaaaDoor
