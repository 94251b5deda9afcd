/-
  Memory by names: reading, writing, new blocks, each step held against the model's world.
-/
import Derived.Test.YtnkpegdmbocgaaaDoorEx1
namespace Go.Proofs.YtnkpegdmbocgaaaDoor
open Go Go.RowKit

structure ABlk where
  wr : Bool
  op : Bool
  cont : Cont
structure MS where
  bl : List (Nat × Option ABlk)
  nx : Nat
def look : List (Nat × Option ABlk) → Nat → Option ABlk
  | [], _ => none
  | (l, b) :: r, k => match Nat.beq l k with
    | true => b
    | false => look r k
def upd : List (Nat × Option ABlk) → Nat → Option ABlk → List (Nat × Option ABlk)
  | [], k, b => [(k, b)]
  | (l, b') :: r, k, b => match Nat.beq l k with
    | true => (l, b) :: r
    | false => (l, b') :: upd r k b
theorem nbeq_ne {l k : Nat} (h : ¬ l = k) : Nat.beq l k = false := by
  cases hb : Nat.beq l k with
  | true => exact absurd (Nat.eq_of_beq_eq_true hb) h
  | false => rfl
theorem look_cons (l : Nat) (b : Option ABlk) (r : List (Nat × Option ABlk)) (k : Nat) : look ((l, b) :: r) k = if l = k then b else look r k := by
  simp only [look]
  by_cases h : l = k
  · subst h; simp
  · rw [if_neg h]
    rw [nbeq_ne h]
theorem look_upd (k k' : Nat) (b : Option ABlk) : ∀ s : List (Nat × Option ABlk), look (upd s k b) k' = if k = k' then b else look s k'
  | [] => by simp only [upd, look_cons]
  | (l, b') :: r => by
    simp only [upd]
    by_cases h : l = k
    · subst h
      simp only [Nat.beq_refl, look_cons]
      by_cases h' : l = k'
      · rw [if_pos h', if_pos h']
      · rw [if_neg h', if_neg h', if_neg h']
    · rw [nbeq_ne h]
      simp only [look_cons, look_upd k k' b r]
      by_cases h1 : l = k'
      · rw [if_pos h1, if_pos h1, if_neg (by omega)]
      · rw [if_neg h1, if_neg h1]

/-- Of such a block nothing is said. -/
def ABlk.void (b : ABlk) : Prop := b.wr = false ∧ b.op = false ∧ (∀ q, b.cont ≠ .obj q) ∧ ∀ r c a, b.cont.at r c ≠ some (a, true)
theorem wr_not_void {b : ABlk} (h : b.wr = true) : ¬ b.void := fun hv => by rw [hv.1] at h; cases h
/-- What is said of a block is so. -/
structure ABlk.ok (ρ : Rho) (nx : Nat) (b : ABlk) (i : LI) (w : World) : Prop where
  lt : i.b < w.heap.size ∨ b.void
  rel : b.cont.rel ρ nx (fun j => w.cell? ⟨i.b, i.o + j, none⟩)
  free : b.wr = true → ∀ j, w.frozen? ⟨i.b, j, none⟩ = false
  room : b.op = true → b.wr = true ∧ i.o = 0 ∧ ∃ cur e, w.heap[i.b]? = some (.cells cur e (0, 0)) ∧ i.cap ≤ cur.size
  obj : ∀ q, b.cont = .obj q → q.ok ρ nx i w
structure MRel (ρ : Rho) (m : MS) (w : World) : Prop where
  blk : ∀ l b, look m.bl l = some b → l < m.nx ∧ b.ok ρ m.nx (ρ l) w
  apart : ∀ l b l' b', look m.bl l = some b → look m.bl l' = some b' → b.wr = true → l' ≠ l → ¬ b'.void → (ρ l').b ≠ (ρ l).b
/-- The blocks that may be written. -/
def Wr (ρ : Rho) (m : MS) (g : Nat) : Prop := ∃ l b, look m.bl l = some b ∧ b.wr = true ∧ (ρ l).b = g
structure Moves (B : Nat) (ρ ρ' : Rho) (m m' : MS) (w w' : World) : Prop where
  ext : ∀ l, l < B → ρ' l = ρ l
  nx : B ≤ m'.nx
  os : w'.os = w.os
  tape : w'.tape = w.tape
  output : w'.output = w.output
  size : w.heap.size ≤ w'.heap.size
  keep : ∀ g, g < w.heap.size → ¬ Wr ρ m g → w'.heap[g]? = w.heap[g]?
  fresh : ∀ g, Wr ρ' m' g → Wr ρ m g ∨ w.heap.size ≤ g
section
variable {B : Nat} {ρ ρ' ρ'' : Rho} {m m' m'' : MS} {w w' w'' : World}
theorem Moves.refl (h : B ≤ m.nx) : Moves B ρ ρ m m w w := ⟨fun _ _ => rfl, h, rfl, rfl, rfl, Nat.le_refl _, fun _ _ _ => rfl, fun _ h => .inl h⟩
theorem Moves.trans (h : Moves B ρ ρ' m m' w w') (h' : Moves B ρ' ρ'' m' m'' w' w'') : Moves B ρ ρ'' m m'' w w'' where
  ext l hl := (h'.ext l hl).trans (h.ext l hl)
  nx := h'.nx
  os := h'.os.trans h.os
  tape := h'.tape.trans h.tape
  output := h'.output.trans h.output
  size := Nat.le_trans h.size h'.size
  keep g hg hn := by
    rw [h'.keep g (Nat.lt_of_lt_of_le hg h.size) (fun hw => by rcases h.fresh g hw with h1 | h1 <;> first | exact hn h1 | omega), h.keep g hg hn]
  fresh g hg := by
    rcases h'.fresh g hg with h1 | h1
    · rcases h.fresh g h1 with h2 | h2
      · exact .inl h2
      · exact .inr h2
    · exact .inr (Nat.le_trans h.size h1)
theorem Moves.base {B' : Nat} (h : Moves B ρ ρ' m m' w w') (hb : B' ≤ B) : Moves B' ρ ρ' m m' w w' :=
  ⟨fun l hl => h.ext l (by omega), by have := h.nx; omega, h.os, h.tape, h.output, h.size, h.keep, h.fresh⟩
theorem Moves.drew (h : B ≤ m.nx) : Moves B ρ ρ m m w { w with drawn := w.drawn + 1 } := ⟨fun _ _ => rfl, h, rfl, rfl, rfl, Nat.le_refl _, fun _ _ _ => rfl, fun _ h => .inl h⟩
theorem ABlk.ok.drew {nx : Nat} {b : ABlk} {i : LI} (h : b.ok ρ nx i w) : b.ok ρ nx i { w with drawn := w.drawn + 1 } := ⟨h.lt, h.rel, h.free, h.room, fun q hq => (h.obj q hq).ext (fun _ _ => rfl) (Nat.le_refl _) rfl⟩
theorem MRel.drew (h : MRel ρ m w) : MRel ρ m { w with drawn := w.drawn + 1 } := ⟨fun l b hl => ⟨(h.blk l b hl).1, (h.blk l b hl).2.drew⟩, h.apart⟩
theorem ABlk.ok.ext {nx nx' : Nat} {b : ABlk} {i : LI} (h : b.ok ρ nx i w) (hρ : ∀ l, l < nx → ρ' l = ρ l) (hn : nx ≤ nx') (hs : w.heap.size ≤ w'.heap.size) (hb : w'.heap[i.b]? = w.heap[i.b]?) : b.ok ρ' nx' i w' where
  lt := h.lt.imp (fun h => Nat.lt_of_lt_of_le h hs) id
  rel := h.rel.ext hρ hn fun j x hx => by
    have hx : w.cell? ⟨i.b, i.o + j, none⟩ = some x := hx
    show w'.cell? _ = _
    simp only [World.cell?] at hx ⊢
    rw [hb]; exact hx
  free hw j := by
    have := h.free hw j
    simp only [World.frozen?] at this ⊢
    rw [hb]; exact this
  room ho := by rw [hb]; exact h.room ho
  obj q hq := (h.obj q hq).ext hρ hn hb
theorem ABlk.ok.any {nx : Nat} {b : ABlk} {i : LI} (h : b.void) (w : World) : b.ok ρ nx i w where
  lt := .inr h
  rel r c a ha := absurd ha (h.2.2.2 r c a)
  free hw := by rw [h.1] at hw; cases hw
  room ho := by rw [h.2.1] at ho; cases ho
  obj q hq := absurd hq (h.2.2.1 q)
/-- Fewer names. -/
theorem MRel.less (h : MRel ρ m w) (hn : m.nx ≤ m'.nx) (hl : ∀ l b, look m'.bl l = some b → look m.bl l = some b) : MRel ρ m' w :=
  ⟨fun l b hb => ⟨by have := (h.blk l b (hl l b hb)).1; omega, (h.blk l b (hl l b hb)).2.ext (fun _ _ => rfl) hn (Nat.le_refl _) rfl⟩, fun l b l' b' h1 h2 => h.apart l b l' b' (hl l b h1) (hl l' b' h2)⟩
/-- What a call on fewer names leaves, with the others again. -/
theorem cell_setCell (w : World) (g o : Nat) (x : Value) (y : Value) (hy : w.cell? ⟨g, o, none⟩ = some y) (g' o' : Nat) : (w.setCell ⟨g, o, none⟩ x).cell? ⟨g', o', none⟩ = if g' = g ∧ o' = o then some x else w.cell? ⟨g', o', none⟩ := by
  simp only [World.cell?, World.setCell, Array.getElem?_modify] at hy ⊢
  by_cases hg : g = g'
  · subst hg
    cases hh : w.heap[g]? with
    | none => simp [hh] at hy
    | some ob =>
      cases ob <;> simp [hh] at hy ⊢
      rename_i c e f
      by_cases ho : o = o'
      · subst ho
        have : o < c.size := (Array.getElem?_eq_some_iff.1 hy).1
        simp [this]
      · rw [if_neg (by omega), Array.getElem?_setIfInBounds_ne ho]
  · rw [if_neg hg, if_neg (by omega)]
theorem frozen_setCell (w : World) (g o : Nat) (x : Value) (g' o' : Nat) : (w.setCell ⟨g, o, none⟩ x).frozen? ⟨g', o', none⟩ = w.frozen? ⟨g', o', none⟩ := by
  simp only [World.frozen?, World.setCell, Array.getElem?_modify]
  by_cases hg : g = g'
  · subst hg
    rw [if_pos rfl]
    cases hh : w.heap[g]? with
    | none => rfl
    | some ob => cases ob <;> rfl
  · rw [if_neg hg]

/-- The place of a cell. -/
def LI.at (i : LI) (j : Nat) : Addr := ⟨i.b, i.o + j, none⟩
theorem add_none (b o n : Nat) : (⟨b, o, none⟩ : Addr).add n = ⟨b, o + n, none⟩ := by
  unfold Addr.add; split <;> simp_all

/-- A store of one cell. -/
theorem MRel.store {l : Nat} {b : ABlk} {k' : Cont} {r c : Nat} {v : AV} {x y : Value} (h : MRel ρ m w) (hl : look m.bl l = some b) (hw : b.wr = true) (hs : b.cont.set r c v = some (k', true)) (hv : AV.rel ρ m.nx v x)
    (hy : w.cell? ⟨(ρ l).b, (ρ l).o + (r * b.cont.width + c), none⟩ = some y) :
    MRel ρ ⟨upd m.bl l (some ⟨b.wr, b.op, k'⟩), m.nx⟩ (w.setCell ⟨(ρ l).b, (ρ l).o + (r * b.cont.width + c), none⟩ x) ∧
    Moves m.nx ρ ρ m ⟨upd m.bl l (some ⟨b.wr, b.op, k'⟩), m.nx⟩ w (w.setCell ⟨(ρ l).b, (ρ l).o + (r * b.cont.width + c), none⟩ x) ∧ k'.width = b.cont.width := by
  obtain ⟨hlt, hok⟩ := h.blk l b hl
  have hset := hok.rel.set (x := x) (cell' := fun j => (w.setCell ⟨(ρ l).b, (ρ l).o + (r * b.cont.width + c), none⟩ x).cell? ⟨(ρ l).b, (ρ l).o + j, none⟩) hs hv
    (by simp only [cell_setCell _ _ _ _ _ hy]; simp) (fun i hi => by simp only [cell_setCell _ _ _ _ _ hy]; rw [if_neg (by omega)])
  have hsz : (w.setCell ⟨(ρ l).b, (ρ l).o + (r * b.cont.width + c), none⟩ x).heap.size = w.heap.size := by simp [World.setCell]
  refine ⟨⟨fun l' b' hl' => ?_, fun l1 b1 l2 b2 h1 h2 hw1 hne hnv => ?_⟩, ⟨fun _ _ => rfl, Nat.le_refl _, rfl, rfl, rfl, by rw [hsz]; exact Nat.le_refl _, fun g hg hn => ?_, fun g hg => .inl ?_⟩, hset.2.1⟩
  · simp only [look_upd] at hl'
    by_cases e : l = l'
    · subst e
      simp only [if_true, Option.some.injEq] at hl'
      subst hl'
      refine ⟨hlt, ⟨.inl (by rw [hsz]; exact hok.lt.resolve_right (wr_not_void hw)), hset.1, fun _ j => by rw [frozen_setCell]; exact hok.free hw j, fun ho => ?_, fun q hq => absurd hq (Cont.plain_ne (Cont.set_plain hs).1 q)⟩⟩
      obtain ⟨r1, r2, cur, e, r3, r4⟩ := hok.room ho
      refine ⟨hw, r2, cur.setIfInBounds ((ρ l).o + (r * b.cont.width + c)) x, e, ?_, by simpa using r4⟩
      simp [World.setCell, Array.getElem?_modify, r3]
    · rw [if_neg e] at hl'
      obtain ⟨h1, h2⟩ := h.blk l' b' hl'
      refine ⟨h1, ?_⟩
      by_cases hv : b'.void
      · exact ABlk.ok.any hv _
      · have hne := h.apart l b l' b' hl hl' hw (Ne.symm e) hv
        exact h2.ext (fun _ _ => rfl) (Nat.le_refl _) (by rw [hsz]; exact Nat.le_refl _) (Below.heap_setCell _ _ _ _ hne)
  · simp only [look_upd] at h1 h2
    by_cases e1 : l = l1
    · subst e1
      rw [if_neg (Ne.symm hne)] at h2
      exact h.apart l b l2 b2 hl h2 hw hne hnv
    · rw [if_neg e1] at h1
      by_cases e2 : l = l2
      · subst e2
        exact h.apart l1 b1 l b h1 hl hw1 hne (wr_not_void hw)
      · rw [if_neg e2] at h2
        exact h.apart l1 b1 l2 b2 h1 h2 hw1 hne hnv
  · exact Below.heap_setCell _ _ _ _ (fun e => hn ⟨l, b, hl, hw, e.symm⟩)
  · obtain ⟨l1, b1, h1, h2, h3⟩ := hg
    simp only [look_upd] at h1
    by_cases e1 : l = l1
    · subst e1; exact ⟨l, b, hl, hw, h3⟩
    · rw [if_neg e1] at h1; exact ⟨l1, b1, h1, h2, h3⟩
/-- A new name for a new block. -/
def Rho.new (ρ : Rho) (n : Nat) (i : LI) : Rho := fun l => if l = n then i else ρ l
theorem MRel.alloc {b : ABlk} {cs : Array Value} {t : TypeId} {cap : Nat} (h : MRel ρ m w) (hr : b.cont.rel ρ m.nx (fun j => cs[j]?)) (hw : b.op = true → b.wr = true ∧ cap ≤ cs.size) (hp : b.cont.plain = true) :
    MRel (ρ.new m.nx ⟨w.heap.size, 0, cap⟩) ⟨(m.nx, some b) :: m.bl, m.nx + 1⟩ (w.alloc (.cells cs t)) ∧
    Moves m.nx ρ (ρ.new m.nx ⟨w.heap.size, 0, cap⟩) m ⟨(m.nx, some b) :: m.bl, m.nx + 1⟩ w (w.alloc (.cells cs t)) := by
  have hext : ∀ l, l < m.nx → (ρ.new m.nx ⟨w.heap.size, 0, cap⟩) l = ρ l := fun l hl => by unfold Rho.new; rw [if_neg (by omega)]
  have hnew : (w.alloc (.cells cs t)).heap[w.heap.size]? = some (.cells cs t) := by show (w.heap.push _)[w.heap.size]? = _; simp
  have hsz : (w.alloc (.cells cs t)).heap.size = w.heap.size + 1 := by show (w.heap.push _).size = _; simp
  refine ⟨⟨fun l b' hl => ?_, fun l1 b1 l2 b2 h1 h2 hw1 hne hnv => ?_⟩, ⟨hext, Nat.le_succ _, rfl, rfl, rfl, by rw [hsz]; omega, fun g hg _ => Below.heap_alloc _ _ _ hg, fun g hg => ?_⟩⟩
  · simp only [look_cons] at hl
    by_cases e : m.nx = l
    · subst e
      simp only [if_true, Option.some.injEq] at hl
      subst hl
      refine ⟨Nat.lt_succ_self _, ⟨.inl (by simp only [Rho.new, if_true]; omega), ?_, fun _ j => ?_, fun ho => ⟨(hw ho).1, ?_⟩, fun q hq => absurd hq (Cont.plain_ne hp q)⟩⟩
      · refine hr.ext hext (Nat.le_succ _) fun j x hx => ?_
        simp only [Rho.new, if_true, World.cell?, hnew]
        simpa using hx
      · simp only [Rho.new, if_true, World.frozen?, hnew]
        simp
      · simp only [Rho.new, if_true]
        exact ⟨trivial, cs, t, hnew, (hw ho).2⟩
    · rw [if_neg e] at hl
      obtain ⟨h1, h2⟩ := h.blk l b' hl
      rw [hext l h1]
      refine ⟨Nat.lt_succ_of_lt h1, ?_⟩
      rcases h2.lt with hlt | hv
      · exact h2.ext hext (Nat.le_succ _) (by rw [hsz]; omega) (Below.heap_alloc _ _ _ hlt)
      · exact ABlk.ok.any hv _
  · simp only [look_cons] at h1 h2
    by_cases e1 : m.nx = l1
    · rw [if_neg (by omega)] at h2
      obtain ⟨g1, g2⟩ := h.blk l2 b2 h2
      rw [hext l2 g1]
      have := g2.lt.resolve_right hnv
      subst e1
      simp only [Rho.new, if_true]
      omega
    · rw [if_neg e1] at h1
      obtain ⟨g1, g2⟩ := h.blk l1 b1 h1
      rw [hext l1 g1]
      by_cases e2 : m.nx = l2
      · have := g2.lt.resolve_right (wr_not_void hw1)
        subst e2
        simp only [Rho.new, if_true]
        omega
      · rw [if_neg e2] at h2
        rw [hext l2 (h.blk l2 b2 h2).1]
        exact h.apart l1 b1 l2 b2 h1 h2 hw1 hne hnv
  · obtain ⟨l, b', h1, h2, h3⟩ := hg
    simp only [look_cons] at h1
    by_cases e : m.nx = l
    · subst e
      simp only [Rho.new, if_true] at h3
      exact .inr (by omega)
    · rw [if_neg e] at h1
      rw [hext l (h.blk l b' h1).1] at h3
      exact .inl ⟨l, b', h1, h2, h3⟩
end
end Go.Proofs.YtnkpegdmbocgaaaDoor
