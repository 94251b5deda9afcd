/-
  A contract of few named blocks holds in any memory that has them: what is written is written there, what is new is new.
-/
import Derived.Test.YtnkpegdmbocgaaaDoorExG
import Derived.Test.YtnkpegdmbocgaaaDoorEx13
namespace Go.Proofs.YtnkpegdmbocgaaaDoor
open Go Go.RowKit
def outB (σ : List (Nat × Nat)) (b0 b1 : List (Nat × Option ABlk)) : List (Nat × Nat) → List (Nat × Option ABlk) → List (Nat × Option ABlk)
  | [], r => r
  | (a, k) :: τ, r => match look b1 k with
    | some ⟨true, op, c⟩ => (a, some ⟨true, op, c.ren σ⟩) :: outB σ b0 b1 τ r
    | _ => match look b0 k with
      | some ⟨true, _, _⟩ => (a, none) :: outB σ b0 b1 τ r
      | _ => outB σ b0 b1 τ r
theorem outB_look {σ : List (Nat × Nat)} {b0 b1 r : List (Nat × Option ABlk)} : ∀ {τ : List (Nat × Nat)} {a : Nat} {b : ABlk}, look (outB σ b0 b1 τ r) a = some b →
    (∃ k b', (a, k) ∈ τ ∧ look b1 k = some b' ∧ b'.wr = true ∧ b = ⟨true, b'.op, b'.cont.ren σ⟩) ∨ (look r a = some b ∧ ∀ k, (a, k) ∈ τ → ¬ ∃ b', look b0 k = some b' ∧ b'.wr = true)
  | [], a, b, h => .inr ⟨h, fun k hk => by cases hk⟩
  | (x, y) :: τ, a, b, h => by
    have key : ∀ {o : Option ABlk}, look ((x, o) :: outB σ b0 b1 τ r) a = some b → (∀ b', o = some b' → (∃ c, look b1 y = some c ∧ c.wr = true ∧ b' = ⟨true, c.op, c.cont.ren σ⟩)) →
        (∃ k b', (a, k) ∈ (x, y) :: τ ∧ look b1 k = some b' ∧ b'.wr = true ∧ b = ⟨true, b'.op, b'.cont.ren σ⟩) ∨ (look r a = some b ∧ ∀ k, (a, k) ∈ (x, y) :: τ → ¬ ∃ b', look b0 k = some b' ∧ b'.wr = true) := fun {o} hh ho => by
      rw [look_cons] at hh
      split at hh
      · rename_i e
        subst e
        obtain ⟨c, h1, h2, h3⟩ := ho b hh
        exact .inl ⟨y, c, List.mem_cons_self, h1, h2, h3⟩
      · rename_i e
        rcases outB_look hh with ⟨k, b', h1, h2⟩ | ⟨h1, h2⟩
        · exact .inl ⟨k, b', List.mem_cons_of_mem _ h1, h2⟩
        · refine .inr ⟨h1, fun k hk => ?_⟩
          rcases List.mem_cons.1 hk with e' | hk
          · cases e'; exact absurd rfl e
          · exact h2 k hk
    simp only [outB] at h
    split at h
    · rename_i op c hc
      exact key h fun b' hb' => by cases hb'; exact ⟨_, hc, rfl, rfl⟩
    · split at h
      · exact key h fun b' hb' => by cases hb'
      · rename_i hno
        rcases outB_look h with ⟨k, b', h1, h2⟩ | ⟨h1, h2⟩
        · exact .inl ⟨k, b', List.mem_cons_of_mem _ h1, h2⟩
        · refine .inr ⟨h1, fun k hk => ?_⟩
          rcases List.mem_cons.1 hk with e' | hk
          · cases e'
            rintro ⟨⟨wr, op, c⟩, g1, g2⟩
            simp only at g2
            subst g2
            exact hno _ _ g1
          · exact h2 k hk
section
variable {P : Program}
theorem Cont.ren_rel {ρ ρ' : Rho} {nx nx' : Nat} {σ : List (Nat × Nat)} {k : Cont} {cell : Nat → Option Value} (h : ∀ l l', newOf σ l = some l' → ρ' l' = ρ l ∧ l' < nx') (hr : k.rel ρ nx cell) : (k.ren σ).rel ρ' nx' cell := fun r c a' ha => by
  obtain ⟨a0, e1, rfl⟩ := Cont.ren_at ha
  obtain ⟨x1, x, x2, x3⟩ := hr r c a0 e1
  exact ⟨by rw [Cont.ren_width]; exact x1, x, by rw [Cont.ren_width]; exact x2, AV.ren_rel h _ _ x3⟩
theorem lift_gen {f : FuncId} {m m1 m1' : MS} {args args1 : List AV} {v1 : AV} {σi σo : List (Nat × Nat)} {nx' : Nat} (h : FSound P f m1 args1 v1 m1') (hargs : AV.rens σi args = args1)
    (hi : ∀ k b1, look m1.bl k = some b1 → ∃ a b, (k, a) ∈ σi ∧ look m.bl a = some b ∧ b1.cont = b.cont.ren σi ∧ (b1.wr = true → b.wr = true) ∧ (b1.op = true → b.op = true ∧ b1.wr = true))
    (hi1 : ∀ p ∈ σi, p.1 < m1.nx ∧ (p.2, p.1) ∈ σo) (hd1 : distB (σi.map (·.1)) = true) (hd2 : distB (σi.map (·.2)) = true) (hd3 : distB (σo.map (·.1)) = true) (hd4 : distB (σo.map (·.2)) = true)
    (hs : ∀ p ∈ σi, ∃ b, look m.bl p.2 = some b) (ho' : ∀ p ∈ σo, (p.2, p.1) ∈ σi ∨ (m.nx ≤ p.1 ∧ p.1 < nx')) (hn : m.nx ≤ nx') : FSound P f m args (v1.ren σo) ⟨outB σo m1.bl m1'.bl σo m.bl, nx'⟩ := by
  intro ρ w xs hm hx
  have ho : ∀ p ∈ σo, p.1 < nx' ∧ (p.1 < m.nx → (p.2, p.1) ∈ σi) := fun p hp => by
    rcases ho' p hp with h1 | h1
    · obtain ⟨b, hb⟩ := hs _ h1
      have := (hm.blk _ b hb).1
      exact ⟨by simp only at this; omega, fun _ => h1⟩
    · exact ⟨h1.2, fun h2 => by omega⟩
  let ρ1 : Rho := fun k => match oldOf σi k with
    | some a => ρ a
    | none => ⟨0, 0, 0⟩
  have hmem1 : ∀ k a, (k, a) ∈ σi → ρ1 k = ρ a := fun k a hk => by simp only [ρ1, oldOf_of hd1 hk]
  have hnew1 : ∀ l l', newOf σi l = some l' → ρ1 l' = ρ l ∧ l' < m1.nx := fun l l' hl => ⟨hmem1 _ _ (newOf_mem hl), (hi1 _ (newOf_mem hl)).1⟩
  have hm1 : MRel ρ1 m1 w := by
    refine ⟨fun k b1 hk => ?_, fun k b1 k' b1' hk hk' hw hne hnv => ?_⟩
    · obtain ⟨a, b, g1, g2, g3, g4, g5⟩ := hi k b1 hk
      refine ⟨(hi1 _ g1).1, ?_⟩
      rw [hmem1 k a g1]
      have hb := (hm.blk a b g2).2
      refine ⟨?_, ?_, fun hw => hb.free (g4 hw), fun hop => ?_, fun q hq => QObj.ok.ren hnew1 hb.obj q (by rw [← g3]; exact hq)⟩
      · by_cases hw : b1.wr = true
        · exact .inl (hb.lt.resolve_right (wr_not_void (g4 hw)))
        · rcases hb.lt with hlt | hv
          · exact .inl hlt
          · refine .inr ⟨by simpa using hw, ?_, (fun q => by rw [g3]; exact Cont.ren_obj hv.2.2.1 q), fun r c a' ha => ?_⟩
            · cases hop : b1.op with
              | false => rfl
              | true => have := (g5 hop).1; rw [hv.2.1] at this; cases this
            · rw [g3] at ha
              obtain ⟨a0, e1, _⟩ := Cont.ren_at ha
              exact hv.2.2.2 r c a0 e1
      · rw [g3]; exact Cont.ren_rel hnew1 hb.rel
      · exact ⟨(g5 hop).2, (hb.room (g5 hop).1).2⟩
    · obtain ⟨a, b, g1, g2, g3, g4, g5⟩ := hi k b1 hk
      obtain ⟨a', b', g1', g2', g3', g4', g5'⟩ := hi k' b1' hk'
      rw [hmem1 k a g1, hmem1 k' a' g1']
      refine hm.apart a b a' b' g2 g2' (g4 hw) (fun e => hne ?_) fun hv => hnv ⟨?_, ?_, (fun q => by rw [g3']; exact Cont.ren_obj hv.2.2.1 q), fun r c a0 ha => ?_⟩
      · subst e
        exact dist_old hd2 g1' g1
      · cases hw' : b1'.wr with
        | false => rfl
        | true => have := g4' hw'; rw [hv.1] at this; cases this
      · cases hw' : b1'.op with
        | false => rfl
        | true => have := (g5' hw').1; rw [hv.2.1] at this; cases this
      · rw [g3'] at ha
        obtain ⟨a1, e1, _⟩ := Cont.ren_at ha
        exact hv.2.2.2 r c a1 e1
  have hx1 : AV.rels ρ1 m1.nx args1 xs := by rw [← hargs]; exact AV.rens_rels hnew1 _ _ hx
  refine Went.mono (h ρ1 w xs hm1 hx1) fun x w' ⟨ρ2, hr, hm2, mv⟩ => ?_
  have hWr1 : ∀ g, Wr ρ1 m1 g → Wr ρ m g := fun g ⟨k, b1, h1, h2, h3⟩ => by
    obtain ⟨a, b, g1, g2, g3, g4, g5⟩ := hi k b1 h1
    exact ⟨a, b, g2, g4 h2, by rw [← hmem1 k a g1]; exact h3⟩
  let ρ' : Rho := fun j => match oldOf σo j with
    | some k => ρ2 k
    | none => ρ j
  have hmem2 : ∀ j k, (j, k) ∈ σo → ρ' j = ρ2 k := fun j k hk => by simp only [ρ', oldOf_of hd3 hk]
  have hnew2 : ∀ l l', newOf σo l = some l' → ρ' l' = ρ2 l ∧ l' < nx' := fun l l' hl => ⟨hmem2 _ _ (newOf_mem hl), (ho _ (newOf_mem hl)).1⟩
  have hext : ∀ j, j < m.nx → ρ' j = ρ j := fun j hj => by
    simp only [ρ']
    split
    · rename_i k hk
      have h1 := oldOf_mem hk
      have h2 := (ho _ h1).2 hj
      rw [mv.ext k (hi1 _ h2).1, hmem1 k j h2]
    · rfl
  -- a block that was not handed over to be written
  have hkeepB : ∀ a b, look m.bl a = some b → (∀ k, (a, k) ∈ σo → ¬ ∃ b', look m1.bl k = some b' ∧ b'.wr = true) → ¬ b.void → ¬ Wr ρ1 m1 (ρ a).b := fun a b ha hno hnv ⟨k, b1, h1, h2, h3⟩ => by
    obtain ⟨a', b', g1, g2, g3, g4, g5⟩ := hi k b1 h1
    rw [hmem1 k a' g1] at h3
    by_cases e : a = a'
    · subst e
      exact hno k (hi1 _ g1).2 ⟨b1, h1, h2⟩
    · exact hm.apart a' b' a b g2 ha (g4 h2) e hnv h3.symm
  have hcase : ∀ a b, look (outB σo m1.bl m1'.bl σo m.bl) a = some b → b.wr = true ∨ look m.bl a = some b := fun a b hab => by
    rcases outB_look hab with ⟨k, b', h1, h2, h3, rfl⟩ | ⟨h1, h2⟩
    · exact .inl rfl
    · exact .inr h1
  refine ⟨ρ', AV.ren_rel hnew2 _ _ hr, ⟨fun a b ha => ?_, fun a b a' b' ha ha' hw hne hnv => ?_⟩, ⟨hext, hn, mv.os, mv.tape, mv.output, mv.size, fun g hg hno => mv.keep g hg fun hw => hno (hWr1 g hw), fun g ⟨a, b, h1, h2, h3⟩ => ?_⟩⟩
  · rcases outB_look ha with ⟨k, b', h1, h2, h3, rfl⟩ | ⟨h1, h2⟩
    · refine ⟨(ho _ h1).1, ?_⟩
      rw [hmem2 a k h1]
      have hb := (hm2.blk k b' h2).2
      exact ⟨.inl (hb.lt.resolve_right (wr_not_void h3)), Cont.ren_rel hnew2 hb.rel, fun _ => hb.free h3, fun hop => ⟨rfl, (hb.room hop).2⟩, fun q hq => QObj.ok.ren hnew2 hb.obj q hq⟩
    · obtain ⟨q1, q2⟩ := hm.blk a b h1
      refine ⟨by show a < nx'; omega, ?_⟩
      rw [hext a q1]
      rcases q2.lt with hlt | hv
      · by_cases hv : b.void
        · exact ABlk.ok.any hv _
        · exact q2.ext hext hn mv.size (mv.keep _ hlt (hkeepB a b h1 h2 hv))
      · exact ABlk.ok.any hv _
  · rcases outB_look ha with ⟨k, c, h1, h2, h3, rfl⟩ | ⟨h1, h2⟩
    · rw [hmem2 a k h1]
      rcases outB_look ha' with ⟨k', c', h1', h2', h3', rfl⟩ | ⟨h1', h2'⟩
      · rw [hmem2 a' k' h1']
        exact hm2.apart k c k' c' h2 h2' h3 (fun e => hne (by subst e; exact dist_old hd4 h1' h1)) (wr_not_void h3')
      · obtain ⟨q1, q2⟩ := hm.blk a' b' h1'
        rw [hext a' q1]
        have hlt := q2.lt.resolve_right hnv
        rcases mv.fresh (ρ2 k).b ⟨k, c, h2, h3, rfl⟩ with hW | hge
        · intro e
          rw [← e] at hW
          exact hkeepB a' b' h1' h2' hnv hW
        · omega
    · obtain ⟨q1, q2⟩ := hm.blk a b h1
      have hlt := q2.lt.resolve_right (wr_not_void hw)
      rw [hext a q1]
      rcases outB_look ha' with ⟨k', c', h1', h2', h3', rfl⟩ | ⟨h1', h2'⟩
      · rw [hmem2 a' k' h1']
        rcases mv.fresh (ρ2 k').b ⟨k', c', h2', h3', rfl⟩ with hW | hge
        · intro e
          rw [e] at hW
          exact hkeepB a b h1 h2 (wr_not_void hw) hW
        · omega
      · rw [hext a' (hm.blk a' b' h1').1]
        exact hm.apart a b a' b' h1 h1' hw hne hnv
  · rcases outB_look h1 with ⟨k, c, e1, e2, e3, rfl⟩ | ⟨e1, e2⟩
    · rw [hmem2 a k e1] at h3
      rcases mv.fresh g ⟨k, c, e2, e3, h3⟩ with hW | hge
      · exact .inl (hWr1 g hW)
      · exact .inr hge
    · rw [hext a (hm.blk a b e1).1] at h3
      exact .inl ⟨a, b, e1, h2, h3⟩
mutual
theorem AV.ren_ground {σ : List (Nat × Nat)} : ∀ (a : AV), a.ground = true → a.ren σ = a
  | .unk, _ => rfl
  | .val _, _ => rfl
  | .ptr .., h => by cases h
  | .sl .., h => by cases h
  | .gd _ _ _ v, h => by simp only [AV.ground] at h; simp only [AV.ren]; rw [AV.ren_ground v h]
  | .clo f a b, h => by simp only [AV.ground, Bool.and_eq_true] at h; simp only [AV.ren]; rw [AV.rens_ground a h.1, AV.rens_ground b h.2]
  | .agg cs, h => by simp only [AV.ground] at h; simp only [AV.ren]; rw [AV.rens_ground cs h]
  | .tup cs, h => by simp only [AV.ground] at h; simp only [AV.ren]; rw [AV.rens_ground cs h]
theorem AV.rens_ground {σ : List (Nat × Nat)} : ∀ (as : List AV), AV.grounds as = true → AV.rens σ as = as
  | [], _ => rfl
  | a :: as, h => by
    simp only [AV.grounds, Bool.and_eq_true] at h
    simp only [AV.rens]
    rw [AV.ren_ground a h.1, AV.rens_ground as h.2]
end
theorem Cont.ren_ground {σ : List (Nat × Nat)} {k : Cont} (h : k.ground = true) : k.ren σ = k := by
  cases k with
  | cells l => simp only [Cont.ren]; rw [AV.rens_ground l h]
  | col c => rfl
  | rows cs => rfl
  | obj q => cases q with
    | glob g vs => rfl
    | loop st pe tm ps asg body => cases h
theorem rens_append {σ : List (Nat × Nat)} : ∀ (as bs : List AV), AV.rens σ (as ++ bs) = AV.rens σ as ++ AV.rens σ bs
  | [], bs => rfl
  | a :: as, bs => by simp only [List.cons_append, AV.rens]; rw [rens_append as bs]
theorem FSound.less {f : FuncId} {m m' m2 : MS} {args : List AV} {v : AV} (h : FSound P f m args v m') (hn : m'.nx = m2.nx) (hl : ∀ l b, look m2.bl l = some b → look m'.bl l = some b) : FSound P f m args v m2 := fun ρ w xs hm hx =>
  (h ρ w xs hm hx).mono fun x w' ⟨ρ', h1, h2, mv⟩ => ⟨ρ', by rw [← hn]; exact h1, h2.less (by omega) hl, mv.ext, by rw [← hn]; exact mv.nx, mv.os, mv.tape, mv.output, mv.size, mv.keep, fun g ⟨l, b, g1, g2, g3⟩ => mv.fresh g ⟨l, b, hl l b g1, g2, g3⟩⟩
/-- A pointer to a block of plain values, which may be written. -/
theorem lift_w1 {f : FuncId} {m : MS} {ar br : List AV} {v : AV} {l w r c top : Nat} {b : ABlk} {o' : Bool} {c' : Cont} (hl : look m.bl l = some b) (hw : b.wr = true) (hg : b.cont.ground = true)
    (h : FSound P f ⟨[(0, some ⟨true, false, b.cont⟩)], 1⟩ (ar ++ .ptr 0 w r c :: br) v ⟨[(0, some ⟨true, o', c'⟩)], top⟩) (har : AV.grounds ar = true) (hbr : AV.grounds br = true) (hv : v.ground = true) (hc : c'.ground = true) :
    FSound P f m (ar ++ .ptr l w r c :: br) v ⟨upd m.bl l (some ⟨true, o', c'⟩), m.nx⟩ := by
  have := lift_gen (m := m) (args := ar ++ .ptr l w r c :: br) (σi := [(0, l)]) (σo := [(l, 0)]) (nx' := m.nx) h (by
      rw [rens_append, AV.rens_ground _ har]
      simp only [AV.rens, AV.ren, newOf, Nat.beq_refl]
      rw [AV.rens_ground _ hbr]) (fun k b1 hk => by
      obtain ⟨rfl, rfl⟩ := look_one hk
      exact ⟨l, b, List.mem_cons_self, hl, (Cont.ren_ground hg).symm, fun _ => hw, fun h => by cases h⟩)
    (fun p hp => by
      rcases List.mem_cons.1 hp with rfl | hp
      · exact ⟨Nat.zero_lt_one, List.mem_cons_self⟩
      · cases hp) rfl rfl rfl rfl
    (fun p hp => by
      rcases List.mem_cons.1 hp with rfl | hp
      · exact ⟨b, hl⟩
      · cases hp)
    (fun p hp => by
      rcases List.mem_cons.1 hp with rfl | hp
      · exact .inl List.mem_cons_self
      · cases hp) (Nat.le_refl _)
  rw [AV.ren_ground _ hv] at this
  refine this.less rfl fun k bk hk => ?_
  have e : outB [(l, 0)] [(0, some ⟨true, false, b.cont⟩)] [(0, some ⟨true, o', c'⟩)] [(l, 0)] m.bl = (l, some ⟨true, o', c'⟩) :: m.bl := by
    simp only [outB, look, Nat.beq_refl, Cont.ren_ground hc]
  rw [look_upd] at hk
  show look (outB [(l, 0)] [(0, some ⟨true, false, b.cont⟩)] [(0, some ⟨true, o', c'⟩)] [(l, 0)] m.bl) k = some bk
  rw [e, look_cons]
  exact hk
end
end Go.Proofs.YtnkpegdmbocgaaaDoor
