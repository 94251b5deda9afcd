/-
  Contracts over slices that are read: a call on views of what is there.
-/
import Derived.Test.YtnkpegdmbocgaaaDoorEx12
namespace Go.Proofs.YtnkpegdmbocgaaaDoor
open Go Go.RowKit
section
variable {P : Program}
theorem AV.rels.split {ρ : Rho} {nx : Nat} : ∀ {as bs : List AV} {xs : List Value}, AV.rels ρ nx (as ++ bs) xs → ∃ ys zs, xs = ys ++ zs ∧ AV.rels ρ nx as ys ∧ AV.rels ρ nx bs zs
  | [], _, xs, h => ⟨[], xs, rfl, by simp [AV.rels], h⟩
  | a :: as, bs, xs, h => by
    simp only [List.cons_append, AV.rels] at h
    obtain ⟨x, xs', rfl, h1, h2⟩ := h
    obtain ⟨ys, zs, rfl, h3, h4⟩ := AV.rels.split h2
    exact ⟨x :: ys, zs, rfl, by simp only [AV.rels]; exact ⟨_, _, rfl, h1, h3⟩, h4⟩
/-- Names for views of blocks that are there. -/
theorem MRel.views {ρ : Rho} {m m1 : MS} {w : World} (hm : MRel ρ m w) (g : Nat → Nat) (hn : ∀ k b1, look m1.bl k = some b1 → k < m1.nx ∧ b1.wr = false ∧ b1.op = false ∧ b1.cont.ground = true ∧ ∃ b, look m.bl (g k) = some b ∧ b1.cont = b.cont) : MRel (fun k => ρ (g k)) m1 w := by
  refine ⟨fun k b1 h => ?_, fun k b1 k' b2 h1 _ hw _ => ?_⟩
  · obtain ⟨h1, h2, h3, h4, b, hb, hc⟩ := hn k b1 h
    obtain ⟨wr, op, ct⟩ := b1
    simp only at h2 h3 h4 hc
    subst h2 h3 hc
    exact ⟨h1, hm.view hb h4 _ _⟩
  · rw [(hn k b1 h1).2.1] at hw
    cases hw
theorem sl_as {ρ ρ1 : Rho} {nx nx1 l l1 wd r s n : Nat} {nn : Bool} {cap : Option Nat} {x : Value} (h : AV.rel ρ nx (.sl nn l wd r s n cap) x) (hl : l1 < nx1) (e : ρ1 l1 = ρ l) : AV.rel ρ1 nx1 (.sl nn l1 wd r s n cap) x := by
  simp only [AV.rel] at h ⊢
  rw [e]
  exact ⟨hl, h.2⟩
theorem look_one {l k : Nat} {b b' : ABlk} (h : look [(l, some b)] k = some b') : k = l ∧ b' = b := by
  rw [look_cons] at h
  split at h
  · rename_i e; cases h; exact ⟨e.symm, rfl⟩
  · cases h
/-- One slice is handed over, for reading. -/
theorem lift_one {f : FuncId} {m m1' : MS} {args : List AV} {v : AV} {l wd r s n : Nat} {nn : Bool} {cap : Option Nat} {b : ABlk} {ar br : List AV} (hl : look m.bl l = some b) (hg : b.cont.ground = true)
    (h : FSound P f ⟨[(0, some ⟨false, false, b.cont⟩)], 1⟩ (ar ++ .sl nn 0 wd r s n cap :: br) v m1') (hx : args = ar ++ .sl nn l wd r s n cap :: br) (ha : AV.grounds ar = true) (hb : AV.grounds br = true) (hv : v.ground = true) : FSound P f m args v m := by
  refine lift_pure h rfl hv fun ρ w xs hm hr => ?_
  subst hx
  refine ⟨fun _ => ρ l, hm.views (fun _ => l) (fun k b1 hk => ?_), ?_⟩
  · obtain ⟨rfl, rfl⟩ := look_one hk
    exact ⟨by show (0 : Nat) < 1; omega, rfl, rfl, hg, b, hl, rfl⟩
  · obtain ⟨ys, zs, rfl, h1, h2⟩ := hr.split
    simp only [AV.rels] at h2
    obtain ⟨z, zs', rfl, h3, h4⟩ := h2
    exact (AV.grounds_rels _ _ ha h1).append (by simp only [AV.rels]; exact ⟨_, _, rfl, sl_as h3 (by omega) rfl, AV.grounds_rels _ _ hb h4⟩)
end
end Go.Proofs.YtnkpegdmbocgaaaDoor
