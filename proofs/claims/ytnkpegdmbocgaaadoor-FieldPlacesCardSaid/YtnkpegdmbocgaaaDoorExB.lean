/-
  Regions whose order is open, with places made at any time: names that a value does not speak of; memory with what is made added.
-/
import Derived.Test.YtnkpegdmbocgaaaDoorEx11
namespace Go.Proofs.YtnkpegdmbocgaaaDoor
open Go Go.RowKit
mutual
/-- It does not speak of this name. -/
def AV.offB (l : Nat) : AV → Bool
  | .unk => true
  | .val _ => true
  | .ptr k _ _ _ => !Nat.beq k l
  | .sl _ k _ _ _ _ _ => !Nat.beq k l
  | .gd _ _ _ v => AV.offB l v
  | .clo _ a b => AV.offsB l a && AV.offsB l b
  | .agg cs => AV.offsB l cs
  | .tup cs => AV.offsB l cs
  | .yld k => !Nat.beq k l
def AV.offsB (l : Nat) : List AV → Bool
  | [] => true
  | a :: r => AV.offB l a && AV.offsB l r
end
section
variable {ρ ρ' : Rho} {nx l : Nat}
theorem beq_off {k l : Nat} (h : (!Nat.beq k l) = true) : k ≠ l := fun e => by subst e; simp at h
mutual
theorem AV.rel.off (hρ : ∀ k, k ≠ l → ρ' k = ρ k) : ∀ (a : AV) (x : Value), a.offB l = true → AV.rel ρ nx a x → AV.rel ρ' nx a x
  | .unk, _, _, _ => by simp only [AV.rel]
  | .val v, x, _, hx => by simpa only [AV.rel] using hx
  | .ptr k w r c, x, h, hx => by
    simp only [AV.rel, AV.offB] at hx h ⊢
    rw [hρ k (beq_off h)]
    exact hx
  | .sl nn k w r s n cap, x, h, hx => by
    simp only [AV.rel, AV.offB] at hx h ⊢
    rw [hρ k (beq_off h)]
    exact hx
  | .gd _ _ g v, x, h, hx => by
    simp only [AV.rel, AV.offB] at hx h ⊢
    exact ⟨fun hg => AV.rel.off hρ v x h (hx.1 hg), hx.2⟩
  | .clo f fs cs, x, h, hx => by
    simp only [AV.rel, AV.offB, Bool.and_eq_true] at hx h ⊢
    obtain ⟨xs, ys, e, h1, h2⟩ := hx
    exact ⟨xs, ys, e, AV.rels.off hρ fs xs h.1 h1, AV.rels.off hρ cs ys h.2 h2⟩
  | .agg cs, x, h, hx => by
    simp only [AV.rel, AV.offB] at hx h ⊢
    obtain ⟨xs, e, h1⟩ := hx
    exact ⟨xs, e, AV.rels.off hρ cs xs h h1⟩
  | .tup cs, x, h, hx => by
    simp only [AV.rel, AV.offB] at hx h ⊢
    obtain ⟨xs, e, h1⟩ := hx
    exact ⟨xs, e, AV.rels.off hρ cs xs h h1⟩
  | .yld k, x, h, hx => by
    simp only [AV.rel, AV.offB] at hx h ⊢
    rw [hρ k (beq_off h)]
    exact hx
theorem AV.rels.off (hρ : ∀ k, k ≠ l → ρ' k = ρ k) : ∀ (as : List AV) (xs : List Value), AV.offsB l as = true → AV.rels ρ nx as xs → AV.rels ρ' nx as xs
  | [], xs, _, hx => by simpa only [AV.rels] using hx
  | a :: as, xs, h, hx => by
    simp only [AV.rels, AV.offsB, Bool.and_eq_true] at hx h ⊢
    obtain ⟨y, ys, e, h1, h2⟩ := hx
    exact ⟨y, ys, e, AV.rel.off hρ a y h.1 h1, AV.rels.off hρ as ys h.2 h2⟩
end
end
/-- Memory by what is found in it. -/
theorem MRel.by_look {ρ : Rho} {m m' : MS} {w : World} (h : MRel ρ m w) (hn : m.nx ≤ m'.nx) (hl : ∀ l b, look m'.bl l = some b → look m.bl l = some b) : MRel ρ m' w := h.less hn hl
/-- What reads alone, reckoned without what was made meanwhile, leaves that too. -/
theorem MRel.frame {ρ ρ' : Rho} {m mL : MS} {w w' : World} (hL : MRel ρ mL w) (hnx : m.nx = mL.nx) (hsub : ∀ l b, look m.bl l = some b → look mL.bl l = some b) (hadd : ∀ l b, look mL.bl l = some b → look m.bl l = some b ∨ b.wr = true ∧ look m.bl l = none)
    (h' : MRel ρ' m w') (mv : Moves m.nx ρ ρ' m m w w') : MRel ρ' mL w' := by
  have hρ : ∀ l b, look mL.bl l = some b → ρ' l = ρ l := fun l b h => mv.ext l (by rw [hnx]; exact (hL.blk l b h).1)
  refine ⟨fun l b h => ⟨(hL.blk l b h).1, ?_⟩, fun l b l' b' h1 h2 hw hne hv => ?_⟩
  · rcases hadd l b h with h1 | ⟨hw, hno⟩
    · have := (h'.blk l b h1).2
      rw [← hnx]
      exact this
    · have hb := (hL.blk l b h).2
      rw [hρ l b h]
      have hnv : ¬ b.void := fun hv => by rw [hv.1] at hw; cases hw
      have hlt : (ρ l).b < w.heap.size := hb.lt.resolve_right hnv
      refine hb.ext (fun k hk => mv.ext k (by rw [hnx]; exact hk)) (Nat.le_refl _) mv.size (mv.keep _ hlt ?_)
      rintro ⟨k, bk, hk, hkw, e⟩
      have hkl : k ≠ l := fun e' => by subst e'; rw [hno] at hk; cases hk
      exact hL.apart k bk l b (hsub k bk hk) h hkw (Ne.symm hkl) hnv e.symm
  · rw [hρ l b h1, hρ l' b' h2]
    exact hL.apart l b l' b' h1 h2 hw hne hv
theorem Moves.frame {ρ ρ' : Rho} {m mL : MS} {w w' : World} (hL : MRel ρ mL w) (hnx : m.nx = mL.nx) (hsub : ∀ l b, look m.bl l = some b → look mL.bl l = some b) (mv : Moves m.nx ρ ρ' m m w w') : Moves mL.nx ρ ρ' mL mL w w' :=
  ⟨fun l hl => mv.ext l (by rw [hnx]; exact hl), Nat.le_refl _, mv.os, mv.tape, mv.output, mv.size,
   fun g hg hno => mv.keep g hg fun ⟨l, b, h1, h2, h3⟩ => hno ⟨l, b, hsub l b h1, h2, h3⟩,
   fun g ⟨l, b, h1, h2, h3⟩ => .inl ⟨l, b, h1, h2, by rw [← h3, mv.ext l (by rw [hnx]; exact (hL.blk l b h1).1)]⟩⟩
theorem Cont.down {ρ : Rho} {nx n : Nat} {k : Cont} {cell : Nat → Option Value} (h : k.locsB n = true) (hr : k.rel ρ nx cell) : k.rel ρ n cell := fun r c a ha => by
  obtain ⟨h1, x, h2, h3⟩ := hr r c a ha
  exact ⟨h1, x, h2, AV.rel.down a x (Cont.locsB_at h ha) h3⟩
mutual
def AV.okB (p : Nat → Bool) : AV → Bool
  | .unk => true
  | .val _ => true
  | .ptr k _ _ _ => p k
  | .sl _ k _ _ _ _ _ => p k
  | .gd _ _ _ v => AV.okB p v
  | .clo _ a b => AV.oksB p a && AV.oksB p b
  | .agg cs => AV.oksB p cs
  | .tup cs => AV.oksB p cs
  | .yld k => p k
def AV.oksB (p : Nat → Bool) : List AV → Bool
  | [] => true
  | a :: r => AV.okB p a && AV.oksB p r
end
section
variable {p : Nat → Bool} {l : Nat}
theorem ok_off {k : Nat} (hp : p l = false) (h : p k = true) : (!Nat.beq k l) = true := by
  cases e : Nat.beq k l with
  | false => rfl
  | true => rw [Nat.eq_of_beq_eq_true e, hp] at h; cases h
mutual
theorem AV.ok_off (hp : p l = false) : ∀ (a : AV), a.okB p = true → a.offB l = true
  | .unk, _ => rfl
  | .val _, _ => rfl
  | .ptr k w r c, h => by simp only [AV.okB, AV.offB] at h ⊢; exact Go.Proofs.YtnkpegdmbocgaaaDoor.ok_off hp h
  | .sl nn k w r s m cap, h => by simp only [AV.okB, AV.offB] at h ⊢; exact Go.Proofs.YtnkpegdmbocgaaaDoor.ok_off hp h
  | .gd _ _ g v, h => by simp only [AV.okB, AV.offB] at h ⊢; exact AV.ok_off hp v h
  | .clo f fs cs, h => by
    simp only [AV.okB, AV.offB, Bool.and_eq_true] at h ⊢
    exact ⟨AV.oks_off hp fs h.1, AV.oks_off hp cs h.2⟩
  | .agg cs, h => by simp only [AV.okB, AV.offB] at h ⊢; exact AV.oks_off hp cs h
  | .tup cs, h => by simp only [AV.okB, AV.offB] at h ⊢; exact AV.oks_off hp cs h
  | .yld k, h => by simp only [AV.okB, AV.offB] at h ⊢; exact Go.Proofs.YtnkpegdmbocgaaaDoor.ok_off hp h
theorem AV.oks_off (hp : p l = false) : ∀ (as : List AV), AV.oksB p as = true → AV.offsB l as = true
  | [], _ => rfl
  | a :: as, h => by
    simp only [AV.oksB, AV.offsB, Bool.and_eq_true] at h ⊢
    exact ⟨AV.ok_off hp a h.1, AV.oks_off hp as h.2⟩
end
end
def Cont.okB (p : Nat → Bool) : Cont → Bool
  | .cells l => AV.oksB p l
  | .obj (.loop _ _ tm _ _ _) => AV.oksB p tm
  | _ => true
def Cont.offB (l : Nat) : Cont → Bool
  | .cells as => AV.offsB l as
  | .obj (.loop _ _ tm _ _ _) => AV.offsB l tm
  | _ => true
theorem Cont.ok_off {p : Nat → Bool} {l : Nat} (hp : p l = false) {k : Cont} (h : k.okB p = true) : k.offB l = true := by
  cases k with
  | cells as => exact AV.oks_off hp as h
  | col c => rfl
  | rows cs => rfl
  | obj q => cases q with
    | glob g vs => rfl
    | loop st pe tm ps asg body => exact AV.oks_off hp tm h
theorem offsB_get {l : Nat} : ∀ {as : List AV} {i : Nat} {a : AV}, AV.offsB l as = true → as[i]? = some a → a.offB l = true
  | [], i, a, _, h => by simp at h
  | x :: as, 0, a, h, hi => by
    simp only [AV.offsB, Bool.and_eq_true] at h
    simp at hi; subst hi; exact h.1
  | x :: as, i + 1, a, h, hi => by
    simp only [AV.offsB, Bool.and_eq_true] at h
    exact offsB_get h.2 (by simpa using hi)
theorem Cont.off_at {l : Nat} {k : Cont} {r c : Nat} {a : AV} {b : Bool} (h : k.offB l = true) (ha : k.at r c = some (a, b)) : a.offB l = true := by
  have hcol : ∀ (cl : Col) (r : Nat) (a : AV) (b : Bool), cl.at r = (a, b) → a.offB l = true := fun cl r a b h => by
    cases cl <;> simp only [Col.at, Prod.mk.injEq] at h <;> obtain ⟨rfl, _⟩ := h <;> rfl
  cases k with
  | cells as =>
    cases c <;> simp only [Cont.at] at ha
    · split at ha
      · rename_i v hv
        cases ha
        exact offsB_get h hv
      · cases ha
    · cases ha
  | col cl =>
    cases c <;> simp only [Cont.at] at ha
    · exact hcol cl r a b (Option.some.inj ha)
    · cases ha
  | rows cs =>
    simp only [Cont.at] at ha
    split at ha
    · rename_i cl hcl
      exact hcol cl r a b (Option.some.inj ha)
    · cases ha
  | obj q => cases c <;> (simp only [Cont.at] at ha; cases ha)
theorem QObj.ok.off {ρ ρ' : Rho} {nx l : Nat} {q : QObj} {i : LI} {w : World} (hρ : ∀ j, j ≠ l → ρ' j = ρ j) (h : (Cont.obj q).offB l = true) (hq : q.ok ρ nx i w) : q.ok ρ' nx i w := by
  cases q with
  | glob g vs => exact hq
  | loop st pe tm ps asg body =>
    obtain ⟨k, h1, h2, h3, h4, h5⟩ := hq
    exact ⟨k, h1, h2, h3, AV.rels.off hρ _ _ h h4, h5⟩
theorem Cont.rel_off {ρ ρ' : Rho} {nx l : Nat} {k : Cont} {cell : Nat → Option Value} (hρ : ∀ j, j ≠ l → ρ' j = ρ j) (h : k.offB l = true) (hr : k.rel ρ nx cell) : k.rel ρ' nx cell := fun r c a ha => by
  obtain ⟨h1, x, h2, h3⟩ := hr r c a ha
  exact ⟨h1, x, h2, AV.rel.off hρ a x (Cont.off_at h ha) h3⟩
/-- What is read alone. -/
def roB : List (Nat × Option ABlk) → List (Nat × Option ABlk)
  | [] => []
  | (l, some b) :: r => (l, some ⟨false, false, b.cont⟩) :: roB r
  | (l, none) :: r => (l, none) :: roB r
theorem roB_look : ∀ {bl : List (Nat × Option ABlk)} {k : Nat} {b : ABlk}, look (roB bl) k = some b → b.wr = false ∧ b.op = false ∧ ∃ b', look bl k = some b' ∧ b.cont = b'.cont
  | [], k, b, h => by cases h
  | (l, o) :: r, k, b, h => by
    cases o with
    | none =>
      simp only [roB] at h
      rw [look_cons] at h ⊢
      split at h
      · cases h
      · rename_i e
        rw [if_neg e]
        exact roB_look h
    | some b1 =>
      simp only [roB] at h
      rw [look_cons] at h ⊢
      split at h
      · rename_i e
        rw [if_pos e]
        cases h
        exact ⟨rfl, rfl, b1, rfl, rfl⟩
      · rename_i e
        rw [if_neg e]
        exact roB_look h
/-- Values that name nothing new. -/
def downA (n : Nat) : List AV → List AV
  | [] => []
  | a :: r => (match a.locsB n with | true => a | false => .unk) :: downA n r
theorem downA_rels {ρ : Rho} {nx n : Nat} : ∀ {as : List AV} {xs : List Value}, AV.rels ρ nx as xs → AV.rels ρ n (downA n as) xs
  | [], xs, h => by simpa only [AV.rels, downA] using h
  | a :: as, xs, h => by
    simp only [AV.rels, downA] at h ⊢
    obtain ⟨y, ys, e, h1, h2⟩ := h
    refine ⟨y, ys, e, ?_, downA_rels h2⟩
    cases hl : a.locsB n with
    | true => exact AV.rel.down a y hl h1
    | false => simp only [AV.rel]
theorem downA_getD (n : Nat) : ∀ (as : List AV) (t : Nat), (downA n as).getD t .unk = (match (as.getD t .unk).locsB n with | true => as.getD t .unk | false => .unk)
  | [], t => by simp [downA, AV.locsB]
  | a :: as, 0 => by simp [downA]
  | a :: as, t + 1 => by
    have := downA_getD n as t
    simpa [downA] using this
theorem downA_gd {n i : Nat} {as : List AV} {t : Nat} {w g : Bool} {v : AV} (h : (downA n as)[i]? = some (.gd t w g v)) : as[i]? = some (.gd t w g v) := by
  have h1 : (downA n as).getD i .unk = .gd t w g v := by simp [List.getD, h]
  rw [downA_getD] at h1
  split at h1
  · simp only [List.getD] at h1
    cases e : as[i]? with
    | none => rw [e] at h1; cases h1
    | some a => rw [e] at h1; exact congrArg some h1
  · cases h1
theorem MRel.roB {ρ : Rho} {m : MS} {w : World} {n : Nat} (h : MRel ρ m w) (hn : ∀ k b, look m.bl k = some b → k < n ∧ b.cont.locsB n = true) : MRel ρ ⟨roB m.bl, n⟩ w := by
  refine ⟨fun k b hk => ?_, fun k b k' b' hk _ hw => ?_⟩
  · obtain ⟨h1, h2, b', h3, h4⟩ := roB_look hk
    obtain ⟨g1, g2⟩ := hn k b' h3
    refine ⟨g1, ?_⟩
    have hb := (h.blk k b' h3).2
    refine ⟨?_, ?_, ?_, ?_, fun q hq => (hb.obj q (by rw [← h4]; exact hq)).down (by rw [← hq, h4]; exact g2)⟩
    · rcases hb.lt with hlt | hv
      · exact .inl hlt
      · exact .inr ⟨h1, h2, by rw [h4]; exact hv.2.2⟩
    · rw [h4]; exact Cont.down g2 hb.rel
    · intro hw; rw [h1] at hw; cases hw
    · intro hw; rw [h2] at hw; cases hw
  · rw [(roB_look hk).1] at hw; cases hw
/-- A step that leaves all that was, and makes one block, goes at any time. -/
theorem new_at {ρ ρ2 : Rho} {mL ms m' : MS} {w w2 : World} {b : ABlk} {l N0 : Nat} {v : AV} {x : Value} (hL : MRel ρ mL w) (hl : l < mL.nx) (hno : look mL.bl l = none) (hB : N0 ≤ l) (hloc : ∀ k bk, look mL.bl k = some bk → bk.cont.offB l = true)
    (hro : ∀ k bk, look ms.bl k = some bk → bk.wr = false) (h2 : MRel ρ2 m' w2) (mv : Moves l ρ ρ2 ms m' w w2) (hb : look m'.bl l = some b) (hw : b.wr = true) (hbl : b.cont.locsB l = true) (hv : v.locsB (l + 1) = true) (hx : AV.rel ρ2 m'.nx v x) :
    ∃ ρ' : Rho, (∀ k, k ≠ l → ρ' k = ρ k) ∧ AV.rel ρ' mL.nx v x ∧ MRel ρ' ⟨(l, some b) :: mL.bl, mL.nx⟩ w2 ∧ Moves N0 ρ ρ' mL ⟨(l, some b) :: mL.bl, mL.nx⟩ w w2 := by
  have hnw : ∀ g, ¬ Wr ρ ms g := fun g ⟨k, bk, h1, h3, _⟩ => by rw [hro k bk h1] at h3; cases h3
  have hkeep : ∀ g, g < w.heap.size → w2.heap[g]? = w.heap[g]? := fun g hg => mv.keep g hg (hnw g)
  have hfr : w.heap.size ≤ (ρ2 l).b := (mv.fresh (ρ2 l).b ⟨l, b, hb, hw, rfl⟩).resolve_left (hnw _)
  have hlow : ∀ k, k < l → ρ2 k = ρ k := fun k hk => mv.ext k hk
  have hbk := (h2.blk l b hb).2
  let ρ' : Rho := fun k => if k = l then ρ2 l else ρ k
  have hne : ∀ k, k ≠ l → ρ' k = ρ k := fun k hk => if_neg hk
  have hself : ρ' l = ρ2 l := if_pos rfl
  have hin : ∀ k, k < l + 1 → ρ' k = ρ2 k := fun k hk => by
    by_cases e : k = l
    · subst e; exact hself
    · rw [hne k e, hlow k (by omega)]
  have key : ∀ k bk, look ((l, some b) :: mL.bl) k = some bk → (k = l ∧ bk = b) ∨ (k ≠ l ∧ look mL.bl k = some bk) := fun k bk h => by
    rw [look_cons] at h
    split at h
    · rename_i e; cases h; exact .inl ⟨e.symm, rfl⟩
    · rename_i e; exact .inr ⟨fun h => e h.symm, h⟩
  refine ⟨ρ', hne, AV.rel.ext hin (by omega) v x (AV.rel.down v x hv hx), ⟨fun k bk hk => ?_, fun k bk k' bk' hk hk' hw' hnn hnv => ?_⟩, ⟨fun k hk => hne k (by omega), by show N0 ≤ mL.nx; omega, mv.os, mv.tape, mv.output, mv.size, fun g hg _ => hkeep g hg, fun g ⟨k, bk, h1, h3, h4⟩ => ?_⟩⟩
  · rcases key k bk hk with ⟨rfl, rfl⟩ | ⟨hkl, hk⟩
    · refine ⟨hl, ?_⟩
      rw [hself]
      exact ⟨hbk.lt, (Cont.down hbl hbk.rel).ext (fun j hj => hin j (by omega)) (Nat.le_of_lt hl) fun j x hx => hx, hbk.free, hbk.room, fun q hq => ((hbk.obj q hq).down (by rw [← hq]; exact hbl)).ext (fun j hj => hin j (by omega)) (Nat.le_of_lt hl) rfl⟩
    · have hk1 := hL.blk k bk hk
      refine ⟨hk1.1, ?_⟩
      rw [hne k hkl]
      have hk2 : bk.ok ρ mL.nx (ρ k) w2 := by
        rcases hk1.2.lt with hlt | hvd
        · exact hk1.2.ext (fun _ _ => rfl) (Nat.le_refl _) mv.size (hkeep _ hlt)
        · exact ABlk.ok.any hvd _
      exact ⟨hk2.lt, Cont.rel_off hne (hloc k bk hk) hk2.rel, hk2.free, hk2.room, fun q hq => (hk2.obj q hq).off hne (by rw [← hq]; exact hloc k bk hk)⟩
  · rcases key k bk hk with ⟨rfl, rfl⟩ | ⟨hkl, hk⟩
    · rcases key k' bk' hk' with ⟨rfl, _⟩ | ⟨hkl', hk'⟩
      · exact absurd rfl hnn
      · rw [hself, hne k' hkl']
        have := (hL.blk k' bk' hk').2.lt.resolve_right hnv
        omega
    · have h1 := (hL.blk k bk hk).2.lt.resolve_right (wr_not_void hw')
      rcases key k' bk' hk' with ⟨rfl, rfl⟩ | ⟨hkl', hk'⟩
      · rw [hself, hne k hkl]
        omega
      · rw [hne k hkl, hne k' hkl']
        exact hL.apart k bk k' bk' hk hk' hw' hnn hnv
  · rcases key k bk h1 with ⟨rfl, rfl⟩ | ⟨hkl, hk⟩
    · rw [← h4, hself]
      exact .inr hfr
    · rw [hne k hkl] at h4
      exact .inl ⟨k, bk, hk, h3, h4⟩
/-- What was surely made before the i-th operation. -/
def pB (ms : List Nat) (n N0 i k : Nat) : Bool := match Nat.blt k N0 with
  | true => true
  | false => match Nat.beq k (N0 + i) with
    | true => true
    | false => match Nat.ble (N0 + n) k with
      | true => true
      | false => bitOf ms i (k - N0)
def filtB (ms : List Nat) (N0 i : Nat) : List (Nat × Option ABlk) → List (Nat × Option ABlk)
  | [] => []
  | (k, o) :: r => match Nat.blt k N0 with
    | true => (k, o) :: r
    | false => match bitOf ms i (k - N0) with
      | true => (k, o) :: filtB ms N0 i r
      | false => filtB ms N0 i r
/-- New names stand ahead of old ones. -/
def NewAhead (N0 : Nat) : List (Nat × Option ABlk) → Prop
  | [] => True
  | (k, _) :: r => (N0 ≤ k ∧ NewAhead N0 r) ∨ (k < N0 ∧ ∀ j, N0 ≤ j → look r j = none)
theorem filtB_look {ms : List Nat} {N0 i : Nat} : ∀ {bl : List (Nat × Option ABlk)} {k : Nat}, NewAhead N0 bl → look (filtB ms N0 i bl) k = if k < N0 then look bl k else if bitOf ms i (k - N0) = true then look bl k else none
  | [], k, _ => by simp [filtB, look]
  | (j, o) :: r, k, hN => by
    simp only [filtB]
    rcases hN with ⟨hj, hN⟩ | ⟨hj, hold⟩
    · rw [show Nat.blt j N0 = false by
        cases e : Nat.blt j N0 with
        | false => rfl
        | true => have : j < N0 := by simpa [Nat.blt_eq] using e
                  omega]
      dsimp only
      have IH := filtB_look (ms := ms) (i := i) (k := k) hN
      cases hb : bitOf ms i (j - N0) with
      | true =>
        dsimp only
        rw [look_cons, look_cons, IH]
        by_cases e : j = k
        · subst e
          rw [if_pos rfl, if_neg (by omega), if_pos hb, if_pos rfl]
        · simp only [if_neg e]
      | false =>
        dsimp only
        rw [IH, look_cons]
        by_cases e : j = k
        · subst e
          simp [hb, show ¬ j < N0 by omega]
        · simp only [if_neg e]
    · rw [show Nat.blt j N0 = true by simpa [Nat.blt_eq] using hj]
      dsimp only
      by_cases hk : k < N0
      · rw [if_pos hk]
      · rw [if_neg hk, look_cons, if_neg (by omega), hold k (by omega)]
        simp
end Go.Proofs.YtnkpegdmbocgaaaDoor
