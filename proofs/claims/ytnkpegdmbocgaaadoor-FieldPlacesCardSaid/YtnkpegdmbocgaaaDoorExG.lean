/-
  Contracts that hand back a new slice.
-/
import Derived.Test.YtnkpegdmbocgaaaDoorExF
namespace Go.Proofs.YtnkpegdmbocgaaaDoor
open Go Go.RowKit
section
variable {P : Program}
theorem noWr {ρ : Rho} {n g : Nat} : ¬ Wr ρ ⟨[], n⟩ g := fun ⟨l, b, h, _⟩ => by cases h
theorem lift_fresh {f : FuncId} {m : MS} {args : List AV} {k top wd s n : Nat} {nn : Bool} {cap : Option Nat} {b : ABlk} (h : FSound P f noMem args (.sl nn k wd 0 s n cap) ⟨[(k, some b)], top⟩) (ha : AV.grounds args = true) (hg : b.cont.ground = true) (hw : b.wr = true) :
    FSound P f m args (.sl nn m.nx wd 0 s n cap) (m.new b) := by
  intro ρ w xs hm hx
  refine Went.mono (h ρ w xs mrel_none (AV.grounds_rels _ _ ha hx)) fun x w' ⟨ρ1, hr, hm1, mv⟩ => ?_
  have hlk : look [(k, some b)] k = some b := by rw [look_cons, if_pos rfl]
  obtain ⟨hk, hb⟩ := hm1.blk k b hlk
  have hfr : w.heap.size ≤ (ρ1 k).b := (mv.fresh (ρ1 k).b ⟨k, b, hlk, hw, rfl⟩).resolve_left noWr
  have hext : ∀ l, l < m.nx → (ρ.new m.nx (ρ1 k)) l = ρ l := fun l hl => by unfold Rho.new; rw [if_neg (by omega)]
  have hself : (ρ.new m.nx (ρ1 k)) m.nx = ρ1 k := by simp [Rho.new]
  have key : ∀ l b', look ((m.nx, some b) :: m.bl) l = some b' → (l = m.nx ∧ b' = b) ∨ (l < m.nx ∧ look m.bl l = some b') := fun l b' hl => by
    rw [look_cons] at hl
    split at hl
    · rename_i e; cases hl; exact .inl ⟨e.symm, rfl⟩
    · exact .inr ⟨(hm.blk l b' hl).1, hl⟩
  have hkeep : ∀ g, g < w.heap.size → w'.heap[g]? = w.heap[g]? := fun g hg => mv.keep g hg noWr
  refine ⟨ρ.new m.nx (ρ1 k), ?_, ⟨fun l b' hl => ?_, fun l b1 l' b2 h1 h2 hw1 hne hnv => ?_⟩, ⟨hext, Nat.le_succ _, mv.os, mv.tape, mv.output, mv.size, fun g hg _ => hkeep g hg, fun g ⟨l, b', h1, h2, h3⟩ => ?_⟩⟩
  · simp only [AV.rel] at hr ⊢
    rw [hself]
    exact ⟨Nat.lt_succ_self _, hr.2⟩
  · rcases key l b' hl with ⟨rfl, rfl⟩ | ⟨hlt, hl⟩
    · refine ⟨Nat.lt_succ_self _, ?_⟩
      rw [hself]
      exact ⟨hb.lt, Cont.rel_ground hg hb.rel, hb.free, hb.room, fun q hq => (hb.obj q hq).ok_ground (by rw [← hq]; exact hg)⟩
    · refine ⟨Nat.lt_succ_of_lt hlt, ?_⟩
      rw [hext l hlt]
      have h2 := (hm.blk l b' hl).2
      rcases h2.lt with hlt' | hv
      · exact h2.ext hext (Nat.le_succ _) mv.size (hkeep _ hlt')
      · exact ABlk.ok.any hv _
  · rcases key l b1 h1 with ⟨rfl, rfl⟩ | ⟨hlt, hl⟩
    · rcases key l' b2 h2 with ⟨rfl, _⟩ | ⟨hlt', hl'⟩
      · exact absurd rfl hne
      · rw [hself, hext l' hlt']
        have := (hm.blk l' b2 hl').2.lt.resolve_right hnv
        omega
    · have := (hm.blk l b1 hl).2.lt.resolve_right (wr_not_void hw1)
      rcases key l' b2 h2 with ⟨rfl, rfl⟩ | ⟨hlt', hl'⟩
      · rw [hself, hext l hlt]
        omega
      · rw [hext l hlt, hext l' hlt']
        exact hm.apart l b1 l' b2 hl hl' hw1 hne hnv
  · rcases key l b' h1 with ⟨rfl, rfl⟩ | ⟨hlt, hl⟩
    · rw [hself] at h3
      exact .inr (by omega)
    · rw [hext l hlt] at h3
      exact .inl ⟨l, b', hl, h2, h3⟩
end
end Go.Proofs.YtnkpegdmbocgaaaDoor
