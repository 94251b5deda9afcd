/-
  Other names for the same blocks.
-/
import Derived.Test.YtnkpegdmbocgaaaDoorEx12
namespace Go.Proofs.YtnkpegdmbocgaaaDoor
open Go Go.RowKit

/-- By which name a block goes now: pairs (new, old). -/
def newOf : List (Nat × Nat) → Nat → Option Nat
  | [], _ => none
  | (a, b) :: r, l => match Nat.beq b l with
    | true => some a
    | false => newOf r l
def oldOf : List (Nat × Nat) → Nat → Option Nat
  | [], _ => none
  | (a, b) :: r, l => match Nat.beq a l with
    | true => some b
    | false => oldOf r l
mutual
def AV.ren (σ : List (Nat × Nat)) : AV → AV
  | .unk => .unk
  | .val v => .val v
  | .ptr l w r c => match newOf σ l with
    | some l' => .ptr l' w r c
    | none => .unk
  | .sl nn l w r s n cap => match newOf σ l with
    | some l' => .sl nn l' w r s n cap
    | none => .unk
  | .gd t wt g v => .gd t wt g (AV.ren σ v)
  | .clo f a b => .clo f (AV.rens σ a) (AV.rens σ b)
  | .agg cs => .agg (AV.rens σ cs)
  | .tup cs => .tup (AV.rens σ cs)
  | .yld l => match newOf σ l with
    | some l' => .yld l'
    | none => .unk
def AV.rens (σ : List (Nat × Nat)) : List AV → List AV
  | [] => []
  | a :: r => AV.ren σ a :: AV.rens σ r
end
def Cont.ren (σ : List (Nat × Nat)) : Cont → Cont
  | .cells l => .cells (AV.rens σ l)
  | .col c => .col c
  | .rows cs => .rows cs
  | .obj q => .obj (match q with
    | .glob g vs => .glob g vs
    | .loop st pe tm ps asg body => .loop st pe (AV.rens σ tm) ps asg body)
def renB (σ : List (Nat × Nat)) (bl : List (Nat × Option ABlk)) : List (Nat × Nat) → List (Nat × Option ABlk)
  | [] => []
  | (a, b) :: r => match look bl b with
    | some ⟨wr, op, k⟩ => (a, some ⟨wr, op, k.ren σ⟩) :: renB σ bl r
    | none => (a, none) :: renB σ bl r
def memB (l : Nat) : List Nat → Bool
  | [] => false
  | a :: r => match Nat.beq a l with
    | true => true
    | false => memB l r
def distB : List Nat → Bool
  | [] => true
  | a :: r => !memB a r && distB r
def renOk (B nx : Nat) (σ : List (Nat × Nat)) : Bool := Nat.ble B nx && (distB (σ.map (·.1)) && (distB (σ.map (·.2)) && σ.all fun p => Nat.blt p.1 nx && (Nat.ble B p.1 || Nat.beq p.1 p.2)))
def renSt (σ : List (Nat × Nat)) (nx : Nat) (s : St) : St := ⟨s.todo, AV.rens σ s.tm, ⟨renB σ s.m.bl σ, nx⟩⟩
theorem memB_mem {l : Nat} : ∀ {r : List Nat}, l ∈ r → memB l r = true
  | [], h => by simp at h
  | a :: r, h => by
    simp only [memB]
    rcases List.mem_cons.1 h with rfl | h
    · simp
    · split
      · rfl
      · exact memB_mem h
theorem newOf_mem : ∀ {σ : List (Nat × Nat)} {l l' : Nat}, newOf σ l = some l' → (l', l) ∈ σ
  | [], l, l', h => by cases h
  | (a, b) :: r, l, l', h => by
    simp only [newOf] at h
    split at h
    · rename_i e
      cases h
      rw [Nat.eq_of_beq_eq_true e]
      exact List.mem_cons_self
    · exact List.mem_cons_of_mem _ (newOf_mem h)
theorem oldOf_mem : ∀ {σ : List (Nat × Nat)} {l l' : Nat}, oldOf σ l = some l' → (l, l') ∈ σ
  | [], l, l', h => by cases h
  | (a, b) :: r, l, l', h => by
    simp only [oldOf] at h
    split at h
    · rename_i e
      cases h
      rw [Nat.eq_of_beq_eq_true e]
      exact List.mem_cons_self
    · exact List.mem_cons_of_mem _ (oldOf_mem h)
theorem oldOf_of : ∀ {σ : List (Nat × Nat)} {a b : Nat}, distB (σ.map (·.1)) = true → (a, b) ∈ σ → oldOf σ a = some b
  | [], a, b, _, h => by simp at h
  | (a', b') :: r, a, b, hd, h => by
    simp only [List.map_cons, distB, Bool.and_eq_true, Bool.not_eq_true'] at hd
    simp only [oldOf]
    rcases List.mem_cons.1 h with e | h
    · cases e; simp
    · have : a' ≠ a := fun e => by
        subst e
        have := memB_mem (l := a') (r := r.map (·.1)) (List.mem_map.2 ⟨_, h, rfl⟩)
        rw [this] at hd
        exact absurd hd.1 (by decide)
      rw [nbeq_ne this]
      exact oldOf_of hd.2 h
theorem dist_old : ∀ {σ : List (Nat × Nat)} {a a' b : Nat}, distB (σ.map (·.2)) = true → (a, b) ∈ σ → (a', b) ∈ σ → a = a'
  | [], a, a', b, _, h, _ => by simp at h
  | (x, y) :: r, a, a', b, hd, h, h' => by
    simp only [List.map_cons, distB, Bool.and_eq_true, Bool.not_eq_true'] at hd
    rcases List.mem_cons.1 h with e | h
    · rcases List.mem_cons.1 h' with e' | h'
      · cases e; cases e'; rfl
      · cases e
        have := memB_mem (l := y) (r := r.map (·.2)) (List.mem_map.2 ⟨_, h', rfl⟩)
        rw [this] at hd
        exact absurd hd.1 (by decide)
    · rcases List.mem_cons.1 h' with e' | h'
      · cases e'
        have := memB_mem (l := y) (r := r.map (·.2)) (List.mem_map.2 ⟨_, h, rfl⟩)
        rw [this] at hd
        exact absurd hd.1 (by decide)
      · exact dist_old hd.2 h h'
section
variable {P : Program} {ρ ρ' : Rho} {nx nx' : Nat} {σ : List (Nat × Nat)}
mutual
theorem AV.ren_rel (h : ∀ l l', newOf σ l = some l' → ρ' l' = ρ l ∧ l' < nx') : ∀ (a : AV) (x : Value), AV.rel ρ nx a x → AV.rel ρ' nx' (AV.ren σ a) x
  | .unk, _, _ => by simp only [AV.ren, AV.rel]
  | .val v, x, hx => by simpa only [AV.ren, AV.rel] using hx
  | .ptr l w r c, x, hx => by
    simp only [AV.ren]
    split
    · rename_i l' hl
      simp only [AV.rel] at hx ⊢
      rw [(h l l' hl).1]
      exact ⟨(h l l' hl).2, hx.2⟩
    · simp only [AV.rel]
  | .sl nn l w r s n cap, x, hx => by
    simp only [AV.ren]
    split
    · rename_i l' hl
      simp only [AV.rel] at hx ⊢
      rw [(h l l' hl).1]
      exact ⟨(h l l' hl).2, hx.2⟩
    · simp only [AV.rel]
  | .gd _ _ g v, x, hx => by
    simp only [AV.ren, AV.rel] at hx ⊢
    exact ⟨fun hg => AV.ren_rel h v x (hx.1 hg), hx.2⟩
  | .clo f fs cs, x, hx => by
    simp only [AV.ren, AV.rel] at hx ⊢
    obtain ⟨xs, ys, e, h1, h2⟩ := hx
    exact ⟨xs, ys, e, AV.rens_rels h fs xs h1, AV.rens_rels h cs ys h2⟩
  | .agg cs, x, hx => by
    simp only [AV.ren, AV.rel] at hx ⊢
    obtain ⟨xs, e, h1⟩ := hx
    exact ⟨xs, e, AV.rens_rels h cs xs h1⟩
  | .tup cs, x, hx => by
    simp only [AV.ren, AV.rel] at hx ⊢
    obtain ⟨xs, e, h1⟩ := hx
    exact ⟨xs, e, AV.rens_rels h cs xs h1⟩
  | .yld l, x, hx => by
    simp only [AV.ren]
    split
    · rename_i l' hl
      simp only [AV.rel] at hx ⊢
      rw [(h l l' hl).1]
      exact ⟨(h l l' hl).2, hx.2⟩
    · simp only [AV.rel]
theorem AV.rens_rels (h : ∀ l l', newOf σ l = some l' → ρ' l' = ρ l ∧ l' < nx') : ∀ (as : List AV) (xs : List Value), AV.rels ρ nx as xs → AV.rels ρ' nx' (AV.rens σ as) xs
  | [], xs, hx => by simpa only [AV.rens, AV.rels] using hx
  | a :: as, xs, hx => by
    simp only [AV.rens, AV.rels] at hx ⊢
    obtain ⟨y, ys, e, h1, h2⟩ := hx
    exact ⟨y, ys, e, AV.ren_rel h a y h1, AV.rens_rels h as ys h2⟩
end
theorem rens_get : ∀ {l : List AV} {i : Nat} {a : AV}, (AV.rens σ l)[i]? = some a → ∃ b, l[i]? = some b ∧ a = AV.ren σ b
  | [], i, a, h => by simp [AV.rens] at h
  | b :: l, 0, a, h => by simp [AV.rens] at h; exact ⟨b, rfl, h.symm⟩
  | b :: l, i + 1, a, h => by simp [AV.rens] at h; obtain ⟨c, h1, h2⟩ := rens_get h; exact ⟨c, by simpa using h1, h2⟩
theorem Cont.ren_width (k : Cont) : (k.ren σ).width = k.width := by cases k <;> rfl
theorem Cont.ren_at {k : Cont} {r c : Nat} {a : AV} {b : Bool} (h : (k.ren σ).at r c = some (a, b)) : ∃ a0, k.at r c = some (a0, b) ∧ a = AV.ren σ a0 := by
  have hcol : ∀ (cl : Col) (r : Nat) (a : AV) (b : Bool), cl.at r = (a, b) → a = AV.ren σ a := fun cl r a b h => by
    cases cl <;> simp only [Col.at, Prod.mk.injEq] at h <;> obtain ⟨rfl, _⟩ := h <;> simp only [AV.ren]
  cases k with
  | cells l =>
    cases c <;> simp only [Cont.ren, Cont.at] at h ⊢
    · split at h
      · rename_i v hv
        cases h
        obtain ⟨b0, h1, h2⟩ := rens_get hv
        exact ⟨b0, by rw [h1], h2⟩
      · cases h
    · cases h
  | col cl =>
    cases c <;> simp only [Cont.ren, Cont.at] at h ⊢
    · exact ⟨a, h, hcol cl r a b (Option.some.inj h)⟩
    · cases h
  | rows cs =>
    simp only [Cont.ren, Cont.at] at h ⊢
    split at h
    · rename_i cl hcl
      exact ⟨a, h, hcol cl r a b (Option.some.inj h)⟩
    · cases h
  | obj q => cases c <;> (simp only [Cont.ren, Cont.at] at h; cases h)
theorem Cont.ren_obj {k : Cont} (h : ∀ q, k ≠ .obj q) (q : QObj) : k.ren σ ≠ .obj q := by
  cases k <;> simp only [Cont.ren] <;> intro e <;> cases e
  exact h _ rfl
theorem QObj.ok.ren {k : Cont} {i : LI} {w : World} (h : ∀ l l', newOf σ l = some l' → ρ' l' = ρ l ∧ l' < nx') (hk : ∀ q, k = .obj q → q.ok ρ nx i w) (q : QObj) (hq : k.ren σ = .obj q) : q.ok ρ' nx' i w := by
  cases k with
  | cells l => cases hq
  | col l => cases hq
  | rows l => cases hq
  | obj q0 =>
    have h0 := hk q0 rfl
    cases q0 with
    | glob g vs => cases hq; exact h0
    | loop st pe tm ps asg body =>
      cases hq
      obtain ⟨l, h1, h2, h3, h4, h5⟩ := h0
      exact ⟨l, h1, h2, h3, AV.rens_rels h _ _ h4, h5⟩
theorem renB_look {bl : List (Nat × Option ABlk)} : ∀ {τ : List (Nat × Nat)} {l : Nat} {b : ABlk}, look (renB σ bl τ) l = some b → ∃ l0 b0, (l, l0) ∈ τ ∧ look bl l0 = some b0 ∧ b = ⟨b0.wr, b0.op, b0.cont.ren σ⟩
  | [], l, b, h => by cases h
  | (x, y) :: r, l, b, h => by
    simp only [renB] at h
    split at h
    · rename_i wr op k hk
      rw [look_cons] at h
      split at h
      · rename_i e
        subst e
        cases h
        exact ⟨y, _, List.mem_cons_self, hk, rfl⟩
      · obtain ⟨l0, b0, h1, h2⟩ := renB_look h
        exact ⟨l0, b0, List.mem_cons_of_mem _ h1, h2⟩
    · rw [look_cons] at h
      split at h
      · cases h
      · obtain ⟨l0, b0, h1, h2⟩ := renB_look h
        exact ⟨l0, b0, List.mem_cons_of_mem _ h1, h2⟩
theorem Goes.ren {B : Nat} {s : St} (hσ : renOk B nx σ = true) : Goes P B s (renSt σ nx s) := fun b cs ρ a w ht hm hB => by
  simp only [renOk, Bool.and_eq_true] at hσ
  obtain ⟨h1, h2, h3, h4⟩ := hσ
  have hall : ∀ p ∈ σ, p.1 < nx ∧ (B ≤ p.1 ∨ p.1 = p.2) := fun p hp => by
    have := List.all_eq_true.1 h4 p hp
    simp only [Bool.and_eq_true, Bool.or_eq_true] at this
    refine ⟨by simpa [Nat.blt_eq] using this.1, this.2.imp (fun h => Nat.le_of_ble_eq_true h) (fun h => Nat.eq_of_beq_eq_true h)⟩
  let ρ' : Rho := fun l => match oldOf σ l with
    | some l0 => ρ l0
    | none => ρ l
  have hnew : ∀ l l', newOf σ l = some l' → ρ' l' = ρ l ∧ l' < nx := fun l l' h => by
    have hm := newOf_mem h
    refine ⟨?_, (hall _ hm).1⟩
    simp only [ρ', oldOf_of h2 hm]
  have hmem : ∀ l l0, (l, l0) ∈ σ → ρ' l = ρ l0 := fun l l0 h => by simp only [ρ', oldOf_of h2 h]
  refine ⟨ρ', a, w, Steps.refl _ _, AV.rens_rels hnew _ _ ht, rfl, ⟨fun l b' hl => ?_, fun l b1 l' b2 e1 e2 hw hne hnv => ?_⟩, ⟨fun l hl => ?_, Nat.le_of_ble_eq_true h1, rfl, rfl, rfl, Nat.le_refl _, fun _ _ _ => rfl, fun g ⟨l, b', e1, e2, e3⟩ => .inl ?_⟩⟩
  · obtain ⟨l0, b0, g1, g2, rfl⟩ := renB_look hl
    refine ⟨(hall _ g1).1, ?_⟩
    rw [hmem l l0 g1]
    obtain ⟨_, hok⟩ := hm.blk l0 b0 g2
    refine ⟨hok.lt.imp id fun hv => ⟨hv.1, hv.2.1, Cont.ren_obj hv.2.2.1, fun r c a' ha => ?_⟩, fun r c a' ha => ?_, hok.free, hok.room, QObj.ok.ren hnew hok.obj⟩
    · obtain ⟨a0, e1, _⟩ := Cont.ren_at ha
      exact hv.2.2.2 r c a0 e1
    · obtain ⟨a0, e1, rfl⟩ := Cont.ren_at ha
      obtain ⟨x1, x, x2, x3⟩ := hok.rel r c a0 e1
      exact ⟨by rw [Cont.ren_width]; exact x1, x, by rw [Cont.ren_width]; exact x2, AV.ren_rel hnew _ _ x3⟩
  · obtain ⟨l0, b0, g1, g2, rfl⟩ := renB_look e1
    obtain ⟨l0', b0', g1', g2', rfl⟩ := renB_look e2
    rw [hmem l l0 g1, hmem l' l0' g1']
    refine hm.apart l0 b0 l0' b0' g2 g2' hw (fun e => hne ?_) (fun hv => hnv ⟨hv.1, hv.2.1, Cont.ren_obj hv.2.2.1, fun r c a' ha => ?_⟩)
    · subst e
      exact dist_old h3 g1' g1
    · obtain ⟨a0, e1, _⟩ := Cont.ren_at ha
      exact hv.2.2.2 r c a0 e1
  · simp only [ρ']
    split
    · rename_i l0 h0
      rcases (hall _ (oldOf_mem h0)).2 with h | h
      · simp only at h; omega
      · simp only at h; rw [h]
    · rfl
  · obtain ⟨l0, b0, g1, g2, rfl⟩ := renB_look e1
    exact ⟨l0, b0, g2, e2, by rw [← hmem l l0 g1]; exact e3⟩
end
end Go.Proofs.YtnkpegdmbocgaaaDoor
