/-
  Regions whose order is open, with places made at any time: names that a value does not speak of; memory with what is made added.
-/
import Derived.Test.YtpmcflidggofkaaEx11
namespace Go.Proofs.Ytpmcflidggofkaa
open Go Go.RowKit
mutual
/-- It does not speak of this name. -/
def AV.offB (l : Nat) : AV → Bool
  | .unk => true
  | .val _ => true
  | .ptr k _ _ _ => !Nat.beq k l
  | .sl _ k _ _ _ _ _ => !Nat.beq k l
  | .gd _ _ _ v => AV.offB l v
  | .clo _ a b => AV.offsB l a && AV.offsB l b
  | .agg cs => AV.offsB l cs
  | .tup cs => AV.offsB l cs
def AV.offsB (l : Nat) : List AV → Bool
  | [] => true
  | a :: r => AV.offB l a && AV.offsB l r
end
section
variable {ρ ρ' : Rho} {nx l : Nat}
theorem beq_off {k l : Nat} (h : (!Nat.beq k l) = true) : k ≠ l := fun e => by subst e; simp at h
mutual
theorem AV.rel.off (hρ : ∀ k, k ≠ l → ρ' k = ρ k) : ∀ (a : AV) (x : Value), a.offB l = true → AV.rel ρ nx a x → AV.rel ρ' nx a x
  | .unk, _, _, _ => by simp only [AV.rel]
  | .val v, x, _, hx => by simpa only [AV.rel] using hx
  | .ptr k w r c, x, h, hx => by
    simp only [AV.rel, AV.offB] at hx h ⊢
    rw [hρ k (beq_off h)]
    exact hx
  | .sl nn k w r s n cap, x, h, hx => by
    simp only [AV.rel, AV.offB] at hx h ⊢
    rw [hρ k (beq_off h)]
    exact hx
  | .gd _ _ g v, x, h, hx => by
    simp only [AV.rel, AV.offB] at hx h ⊢
    exact ⟨fun hg => AV.rel.off hρ v x h (hx.1 hg), hx.2⟩
  | .clo f fs cs, x, h, hx => by
    simp only [AV.rel, AV.offB, Bool.and_eq_true] at hx h ⊢
    obtain ⟨xs, ys, e, h1, h2⟩ := hx
    exact ⟨xs, ys, e, AV.rels.off hρ fs xs h.1 h1, AV.rels.off hρ cs ys h.2 h2⟩
  | .agg cs, x, h, hx => by
    simp only [AV.rel, AV.offB] at hx h ⊢
    obtain ⟨xs, e, h1⟩ := hx
    exact ⟨xs, e, AV.rels.off hρ cs xs h h1⟩
  | .tup cs, x, h, hx => by
    simp only [AV.rel, AV.offB] at hx h ⊢
    obtain ⟨xs, e, h1⟩ := hx
    exact ⟨xs, e, AV.rels.off hρ cs xs h h1⟩
theorem AV.rels.off (hρ : ∀ k, k ≠ l → ρ' k = ρ k) : ∀ (as : List AV) (xs : List Value), AV.offsB l as = true → AV.rels ρ nx as xs → AV.rels ρ' nx as xs
  | [], xs, _, hx => by simpa only [AV.rels] using hx
  | a :: as, xs, h, hx => by
    simp only [AV.rels, AV.offsB, Bool.and_eq_true] at hx h ⊢
    obtain ⟨y, ys, e, h1, h2⟩ := hx
    exact ⟨y, ys, e, AV.rel.off hρ a y h.1 h1, AV.rels.off hρ as ys h.2 h2⟩
end
end
/-- Memory by what is found in it. -/
theorem MRel.by_look {ρ : Rho} {m m' : MS} {w : World} (h : MRel ρ m w) (hn : m.nx ≤ m'.nx) (hl : ∀ l b, look m'.bl l = some b → look m.bl l = some b) : MRel ρ m' w := h.less hn hl
/-- What reads alone, reckoned without what was made meanwhile, leaves that too. -/
theorem MRel.frame {ρ ρ' : Rho} {m mL : MS} {w w' : World} (hL : MRel ρ mL w) (hnx : m.nx = mL.nx) (hsub : ∀ l b, look m.bl l = some b → look mL.bl l = some b) (hadd : ∀ l b, look mL.bl l = some b → look m.bl l = some b ∨ b.wr = true ∧ look m.bl l = none)
    (h' : MRel ρ' m w') (mv : Moves m.nx ρ ρ' m m w w') : MRel ρ' mL w' := by
  have hρ : ∀ l b, look mL.bl l = some b → ρ' l = ρ l := fun l b h => mv.ext l (by rw [hnx]; exact (hL.blk l b h).1)
  refine ⟨fun l b h => ⟨(hL.blk l b h).1, ?_⟩, fun l b l' b' h1 h2 hw hne hv => ?_⟩
  · rcases hadd l b h with h1 | ⟨hw, hno⟩
    · have := (h'.blk l b h1).2
      rw [← hnx]
      exact this
    · have hb := (hL.blk l b h).2
      rw [hρ l b h]
      have hnv : ¬ b.void := fun hv => by rw [hv.1] at hw; cases hw
      have hlt : (ρ l).b < w.heap.size := hb.lt.resolve_right hnv
      refine hb.ext (fun k hk => mv.ext k (by rw [hnx]; exact hk)) (Nat.le_refl _) mv.size (mv.keep _ hlt ?_)
      rintro ⟨k, bk, hk, hkw, e⟩
      have hkl : k ≠ l := fun e' => by subst e'; rw [hno] at hk; cases hk
      exact hL.apart k bk l b (hsub k bk hk) h hkw (Ne.symm hkl) hnv e.symm
  · rw [hρ l b h1, hρ l' b' h2]
    exact hL.apart l b l' b' h1 h2 hw hne hv
theorem Moves.frame {ρ ρ' : Rho} {m mL : MS} {w w' : World} (hL : MRel ρ mL w) (hnx : m.nx = mL.nx) (hsub : ∀ l b, look m.bl l = some b → look mL.bl l = some b) (mv : Moves m.nx ρ ρ' m m w w') : Moves mL.nx ρ ρ' mL mL w w' :=
  ⟨fun l hl => mv.ext l (by rw [hnx]; exact hl), Nat.le_refl _, mv.os, mv.tape, mv.output, mv.size,
   fun g hg hno => mv.keep g hg fun ⟨l, b, h1, h2, h3⟩ => hno ⟨l, b, hsub l b h1, h2, h3⟩,
   fun g ⟨l, b, h1, h2, h3⟩ => .inl ⟨l, b, h1, h2, by rw [← h3, mv.ext l (by rw [hnx]; exact (hL.blk l b h1).1)]⟩⟩
theorem Cont.down {ρ : Rho} {nx n : Nat} {k : Cont} {cell : Nat → Option Value} (h : k.locsB n = true) (hr : k.rel ρ nx cell) : k.rel ρ n cell := fun r c a ha => by
  obtain ⟨h1, x, h2, h3⟩ := hr r c a ha
  exact ⟨h1, x, h2, AV.rel.down a x (Cont.locsB_at h ha) h3⟩
def allocB (P : Program) (t : TypeId) : Option ABlk := match zeroA P t with
  | some a => match a.cellsOf with
    | some l => some ⟨true, false, mkCont l⟩
    | none => none
  | none => none
theorem alloc_at {P : Program} {ρ : Rho} {mL : MS} {w : World} {t : TypeId} {b : ABlk} {l B : Nat} (hb : allocB P t = some b) (hb0 : b.cont.locsB 0 = true) (hm : MRel ρ mL w) (hl : l < mL.nx) (hno : look mL.bl l = none) (hB : B ≤ l) (hloc : ∀ k bk, look mL.bl k = some bk → bk.cont.locsB B = true) :
    ∃ ρ' x w', (Instr.alloc t true (.tuple #[])).run P w = .ok x w' ∧ (∀ k, k ≠ l → ρ' k = ρ k) ∧ AV.rel ρ' mL.nx (.ptr l 1 0 0) x ∧ MRel ρ' ⟨(l, some b) :: mL.bl, mL.nx⟩ w' ∧ Moves B ρ ρ' mL ⟨(l, some b) :: mL.bl, mL.nx⟩ w w' := by
  have ha : allocA P mL t = some (.ptr mL.nx 1 0 0, mL.new b) := by
    unfold allocB at hb
    unfold allocA boxA
    cases hz : zeroA P t with
    | none => rw [hz] at hb; cases hb
    | some a =>
      rw [hz] at hb
      dsimp only at hb ⊢
      cases hc : a.cellsOf with
      | none => rw [hc] at hb; cases hb
      | some cs => rw [hc] at hb; cases hb; rfl
  have hbw : b.wr = true := by
    unfold allocB at hb
    split at hb
    · split at hb
      · cases hb; rfl
      · cases hb
    · cases hb
  obtain ⟨ρ1, x, w1, h1, h2, h3, mv⟩ := allocA_ok ha hm
  have hnew : ∀ k, look (mL.new b).bl k = if k = mL.nx then some b else look mL.bl k := fun k => by
    show look ((mL.nx, some b) :: mL.bl) k = _
    rw [look_cons]
    by_cases e : mL.nx = k
    · rw [if_pos e, if_pos e.symm]
    · rw [if_neg e, if_neg (Ne.symm e)]
  have h3n := h3.blk mL.nx b (by rw [hnew, if_pos rfl])
  have hρ1 : ∀ k, k < mL.nx → ρ1 k = ρ k := fun k hk => mv.ext k hk
  refine ⟨fun k => if k = l then ρ1 mL.nx else ρ k, x, w1, h1, fun k hk => if_neg hk, ?_, ⟨fun k bk hk => ?_, fun k bk k' bk' hk hk' hw hne hv => ?_⟩, ?_⟩
  · simp only [AV.rel] at h2 ⊢
    exact ⟨hl, by simpa using h2.2⟩
  · rw [look_cons] at hk
    split at hk
    · rename_i e
      subst e
      cases hk
      refine ⟨hl, ?_⟩
      rw [if_pos rfl]
      exact ⟨h3n.2.lt, (Cont.down hb0 h3n.2.rel).ext (fun k hk => by omega) (Nat.zero_le _) fun j x hx => hx, h3n.2.free, h3n.2.room⟩
    · rename_i e
      have hkl : k ≠ l := Ne.symm e
      have hk1 := hm.blk k bk hk
      have hk2 := h3.blk k bk (by rw [hnew, if_neg (by omega)]; exact hk)
      refine ⟨hk1.1, ?_⟩
      rw [if_neg hkl, ← hρ1 k hk1.1]
      exact ⟨hk2.2.lt, (Cont.down (hloc k bk hk) hk2.2.rel).ext (fun j hj => by rw [if_neg (show ¬ j = l by omega), hρ1 j (by omega)]) (by show B ≤ mL.nx; omega) fun j x hx => hx, hk2.2.free, hk2.2.room⟩
  · have hto : ∀ k bk, look ((l, some b) :: mL.bl) k = some bk → ∃ k1, look (mL.new b).bl k1 = some bk ∧ (if k = l then ρ1 mL.nx else ρ k) = ρ1 k1 ∧ (k = l ∧ k1 = mL.nx ∨ k ≠ l ∧ k1 = k ∧ k < mL.nx) := fun k bk h => by
      rw [look_cons] at h
      split at h
      · rename_i e
        cases h
        exact ⟨mL.nx, by rw [hnew, if_pos rfl], by rw [if_pos e.symm], .inl ⟨e.symm, rfl⟩⟩
      · rename_i e
        have hlt := (hm.blk k bk h).1
        exact ⟨k, by rw [hnew, if_neg (by omega)]; exact h, by rw [if_neg (Ne.symm e), hρ1 k hlt], .inr ⟨Ne.symm e, rfl, hlt⟩⟩
    obtain ⟨k1, a1, a2, a3⟩ := hto k bk hk
    obtain ⟨k2, b1, b2, b3⟩ := hto k' bk' hk'
    show (if k' = l then ρ1 mL.nx else ρ k').b ≠ (if k = l then ρ1 mL.nx else ρ k).b
    rw [a2, b2]
    exact h3.apart k1 bk k2 bk' a1 b1 hw (by omega) hv
  · refine ⟨fun k hk => if_neg (by omega), by show B ≤ mL.nx; omega, mv.os, mv.tape, mv.output, mv.size, mv.keep, fun g ⟨k, bk, hk, hw, e⟩ => ?_⟩
    rw [look_cons] at hk
    split at hk
    · rename_i e'
      cases hk
      change (if k = l then ρ1 mL.nx else ρ k).b = g at e
      rw [if_pos e'.symm] at e
      exact mv.fresh g ⟨mL.nx, b, by rw [hnew, if_pos rfl], hw, e⟩
    · rename_i e'
      change (if k = l then ρ1 mL.nx else ρ k).b = g at e
      rw [if_neg (Ne.symm e')] at e
      exact .inl ⟨k, bk, hk, hw, e⟩
end Go.Proofs.Ytpmcflidggofkaa
