/-
  Slices that grow; texts out of bytes; new slices: no condition.
-/
import Derived.Laws.AppendOwn
import Derived.Laws.IdiomStrings
import Derived.Laws.MakeOwn
import Derived.Test.YtnkpegdmbocgaaaDoorEx6
namespace Go.Proofs.YtnkpegdmbocgaaaDoor
open Go Go.RowKit

def intsOf (k : IntKind) : List AV → Option (List Int)
  | [] => some []
  | .val (.int k' x) :: r => match decide (k = k') with
    | true => match intsOf k r with
      | some xs => some (x :: xs)
      | none => none
    | false => none
  | _ => none
def boolsOf : List AV → Option (List Bool)
  | [] => some []
  | .val (.bool x) :: r => match boolsOf r with
    | some xs => some (x :: xs)
    | none => none
  | _ => none
def strsOf : List AV → Option (List ByteArray)
  | [] => some []
  | .val (.string x) :: r => match strsOf r with
    | some xs => some (x :: xs)
    | none => none
  | _ => none
theorem intsOf_eq {k : IntKind} : ∀ {l : List AV} {xs : List Int}, intsOf k l = some xs → l = xs.map fun z => .val (.int k z)
  | [], xs, h => by cases h; rfl
  | a :: l, xs, h => by
    unfold intsOf at h
    split at h
    · rename_i h1; cases h1
    · rename_i k' x r h1
      cases h1
      by_cases hk : k = k'
      · subst hk
        simp only [decide_true] at h
        split at h
        · rename_i ys h2
          cases h
          rw [intsOf_eq h2]; rfl
        · cases h
      · simp [hk] at h
    · cases h
theorem boolsOf_eq : ∀ {l : List AV} {xs : List Bool}, boolsOf l = some xs → l = xs.map fun z => .val (.bool z)
  | [], xs, h => by cases h; rfl
  | a :: l, xs, h => by
    unfold boolsOf at h
    split at h
    · rename_i h1; cases h1
    · rename_i x r h1
      cases h1
      split at h
      · rename_i ys h2
        cases h
        rw [boolsOf_eq h2]; rfl
      · cases h
    · cases h
theorem strsOf_eq : ∀ {l : List AV} {xs : List ByteArray}, strsOf l = some xs → l = xs.map fun z => .val (.string z)
  | [], xs, h => by cases h; rfl
  | a :: l, xs, h => by
    unfold strsOf at h
    split at h
    · rename_i h1; cases h1
    · rename_i x r h1
      cases h1
      split at h
      · rename_i ys h2
        cases h
        rw [strsOf_eq h2]; rfl
      · cases h
    · cases h
/-- Cells put behind the first n. -/
def Col.app : Col → Nat → List AV → Option (Col × Bool)
  | .ints k zs, n, cs => match intsOf k cs with
    | some xs => some (.ints k (zs.take n ++ xs), decide (n ≤ zs.length))
    | none => none
  | .bools zs, n, cs => match boolsOf cs with
    | some xs => some (.bools (zs.take n ++ xs), decide (n ≤ zs.length))
    | none => none
  | .strs zs, n, cs => match strsOf cs with
    | some xs => some (.strs (zs.take n ++ xs), decide (n ≤ zs.length))
    | none => none
theorem getD_app {α : Type} {zs xs : List α} {n r : Nat} {d : α} (hn : n ≤ zs.length) : (r < n → (zs.take n ++ xs).getD r d = zs.getD r d) ∧ (¬ r < n → (zs.take n ++ xs).getD r d = xs.getD (r - n) d) := by
  constructor
  · intro hr
    rw [List.getD_eq_getElem?_getD, List.getD_eq_getElem?_getD, List.getElem?_append_left (by simp; omega), List.getElem?_take_of_lt hr]
  · intro hr
    rw [List.getD_eq_getElem?_getD, List.getD_eq_getElem?_getD, List.getElem?_append_right (by simp; omega)]
    simp [Nat.min_eq_left hn]
theorem Col.app_at {c c' : Col} {n r : Nat} {cs : List AV} {a : AV} (h : c.app n cs = some (c', true)) (ha : c'.at r = (a, true)) : (r < n ∧ c.at r = (a, true)) ∨ (∃ j, cs[j]? = some a ∧ r = n + j) := by
  cases c with
  | ints k zs =>
    simp only [Col.app] at h
    split at h
    · rename_i xs hxs
      simp only [Option.some.injEq, Prod.mk.injEq, decide_eq_true_eq] at h
      obtain ⟨rfl, hn⟩ := h
      simp only [Col.at, Prod.mk.injEq, decide_eq_true_eq, List.length_append, List.length_take, Nat.min_eq_left hn] at ha
      obtain ⟨rfl, hr⟩ := ha
      by_cases hlt : r < n
      · refine .inl ⟨hlt, ?_⟩
        simp only [Col.at, (getD_app hn).1 hlt]
        rw [decide_eq_true (by omega)]
      · refine .inr ⟨r - n, ?_, by omega⟩
        rw [intsOf_eq hxs, (getD_app hn).2 hlt]
        simp [show r - n < xs.length by omega]
    · cases h
  | bools zs =>
    simp only [Col.app] at h
    split at h
    · rename_i xs hxs
      simp only [Option.some.injEq, Prod.mk.injEq, decide_eq_true_eq] at h
      obtain ⟨rfl, hn⟩ := h
      simp only [Col.at, Prod.mk.injEq, decide_eq_true_eq, List.length_append, List.length_take, Nat.min_eq_left hn] at ha
      obtain ⟨rfl, hr⟩ := ha
      by_cases hlt : r < n
      · refine .inl ⟨hlt, ?_⟩
        simp only [Col.at, (getD_app hn).1 hlt]
        rw [decide_eq_true (by omega)]
      · refine .inr ⟨r - n, ?_, by omega⟩
        rw [boolsOf_eq hxs, (getD_app hn).2 hlt]
        simp [show r - n < xs.length by omega]
    · cases h
  | strs zs =>
    simp only [Col.app] at h
    split at h
    · rename_i xs hxs
      simp only [Option.some.injEq, Prod.mk.injEq, decide_eq_true_eq] at h
      obtain ⟨rfl, hn⟩ := h
      simp only [Col.at, Prod.mk.injEq, decide_eq_true_eq, List.length_append, List.length_take, Nat.min_eq_left hn] at ha
      obtain ⟨rfl, hr⟩ := ha
      by_cases hlt : r < n
      · refine .inl ⟨hlt, ?_⟩
        simp only [Col.at, (getD_app hn).1 hlt]
        rw [decide_eq_true (by omega)]
      · refine .inr ⟨r - n, ?_, by omega⟩
        rw [strsOf_eq hxs, (getD_app hn).2 hlt]
        simp [show r - n < xs.length by omega]
    · cases h
def colsApp : List Col → Nat → List AV → Option (List Col × List Bool)
  | [], _, [] => some ([], [])
  | c :: cols, n, a :: as => match c.app n [a] with
    | some (c', b) => match colsApp cols n as with
      | some (cols', bs) => some (c' :: cols', b :: bs)
      | none => none
    | none => none
  | _, _, _ => none
theorem colsApp_ok : ∀ {cols cols' : List Col} {n : Nat} {cs : List AV} {bs : List Bool}, colsApp cols n cs = some (cols', bs) → bs.all id = true →
    cols'.length = cols.length ∧ ∀ (c : Nat) (cl' : Col), cols'[c]? = some cl' → ∃ cl a, cols[c]? = some cl ∧ cs[c]? = some a ∧ cl.app n [a] = some (cl', true)
  | [], cols', n, [], bs, h, hb => by cases h; exact ⟨rfl, fun c cl' hc => by simp at hc⟩
  | [], cols', n, a :: as, bs, h, hb => by cases h
  | cl :: cols, cols', n, [], bs, h, hb => by cases h
  | cl :: cols, cols', n, a :: as, bs, h, hb => by
    simp only [colsApp] at h
    split at h
    · rename_i c1 b1 h1
      split at h
      · rename_i cols1 bs1 h2
        cases h
        obtain ⟨hb1, hb2⟩ := all_cons hb
        obtain ⟨g1, g2⟩ := colsApp_ok h2 hb2
        refine ⟨by simp [g1], fun c cl' hc => ?_⟩
        cases c with
        | zero =>
          simp at hc
          subst hc
          exact ⟨cl, a, rfl, rfl, by rw [h1, hb1]⟩
        | succ c =>
          simp at hc
          obtain ⟨cl1, a1, e1, e2, e3⟩ := g2 c cl' hc
          exact ⟨cl1, a1, by simpa using e1, by simpa using e2, e3⟩
      · cases h
    · cases h
def Cont.app (k : Cont) (z n : Nat) (cs : List AV) : Option (Cont × List Bool) := match k with
  | .cells l => some (.cells (l.take (n * z) ++ cs), [decide (n * z ≤ l.length)])
  | .col c => match Nat.beq z 1 with
    | true => match c.app n cs with
      | some (c', b) => some (.col c', [b])
      | none => none
    | false => none
  | .rows cols => match Nat.beq z cols.length with
    | true => match colsApp cols n cs with
      | some (cols', bs) => some (.rows cols', bs)
      | none => none
    | false => none
  | .obj _ => none
theorem Cont.app_plain {k k' : Cont} {z n : Nat} {cs : List AV} {bs : List Bool} (h : k.app z n cs = some (k', bs)) : k'.plain = true := by
  cases k with
  | cells l => simp only [Cont.app, Option.some.injEq, Prod.mk.injEq] at h; rw [← h.1]; rfl
  | col c0 =>
    simp only [Cont.app] at h
    split at h
    · split at h
      · cases h; rfl
      · cases h
    · cases h
  | rows cs =>
    simp only [Cont.app] at h
    split at h
    · split at h
      · cases h; rfl
      · cases h
    · cases h
  | obj q => cases h
theorem Cont.app_rel {ρ : Rho} {nx : Nat} {k k' : Cont} {z n : Nat} {cs : List AV} {bs : List Bool} {xs : List Value} {cell cell' : Nat → Option Value} (h : k.app z n cs = some (k', bs)) (hb : bs.all id = true) (hr : k.rel ρ nx cell) (hx : AV.rels ρ nx cs xs)
    (h1 : ∀ j, j < n * z → ∀ x, cell j = some x → cell' j = some x) (h2 : ∀ j x, xs[j]? = some x → cell' (n * z + j) = some x) : k'.rel ρ nx cell' ∧ k'.width = k.width := by
  cases k with
  | cells l =>
    simp only [Cont.app, Option.some.injEq, Prod.mk.injEq] at h
    obtain ⟨rfl, rfl⟩ := h
    simp at hb
    refine ⟨fun r c a ha => ?_, rfl⟩
    cases c <;> simp only [Cont.at] at ha
    · split at ha
      · rename_i v hv
        cases ha
        refine ⟨by simp [Cont.width], ?_⟩
        simp only [Cont.width, Nat.mul_one, Nat.add_zero]
        by_cases hlt : r < n * z
        · rw [List.getElem?_append_left (by simp; omega), List.getElem?_take_of_lt hlt] at hv
          obtain ⟨_, x, g1, g2⟩ := hr r 0 a (by simp only [Cont.at, hv])
          exact ⟨x, h1 r hlt x (by simpa [Cont.width] using g1), g2⟩
        · rw [List.getElem?_append_right (by simp; omega)] at hv
          simp only [List.length_take, Nat.min_eq_left hb] at hv
          obtain ⟨x, g1, g2⟩ := hx.at_ hv
          have := h2 (r - n * z) x g1
          rw [show n * z + (r - n * z) = r by omega] at this
          exact ⟨x, this, g2⟩
      · cases ha
    · cases ha
  | col c0 =>
    simp only [Cont.app] at h
    split at h
    · rename_i hz
      have hz := Nat.eq_of_beq_eq_true hz
      subst hz
      split at h
      · rename_i c1 b1 hc
        cases h
        have hb1 : b1 = true := by simpa using hb
        subst hb1
        refine ⟨fun r c a ha => ?_, rfl⟩
        cases c <;> simp only [Cont.at] at ha <;> try cases ha
        simp only [Nat.mul_one] at h1 h2
        refine ⟨by simp [Cont.width], ?_⟩
        simp only [Cont.width, Nat.mul_one, Nat.add_zero]
        rcases Col.app_at hc (Option.some.inj ha) with ⟨hlt, hat⟩ | ⟨j, hj, rfl⟩
        · obtain ⟨_, x, g1, g2⟩ := hr r 0 a (by simp only [Cont.at, hat])
          exact ⟨x, h1 r hlt x (by simpa [Cont.width] using g1), g2⟩
        · obtain ⟨x, g1, g2⟩ := hx.at_ hj
          exact ⟨x, h2 j x g1, g2⟩
      · cases h
    · cases h
  | rows cols =>
    simp only [Cont.app] at h
    split at h
    · rename_i hz
      have hz := Nat.eq_of_beq_eq_true hz
      subst hz
      split at h
      · rename_i cols1 bs1 hc
        cases h
        obtain ⟨g1, g2⟩ := colsApp_ok hc hb
        refine ⟨fun r c a ha => ?_, by simp [Cont.width, g1]⟩
        simp only [Cont.at] at ha
        split at ha
        · rename_i cl' hcl
          obtain ⟨cl, a1, hcl1, ha1, happ⟩ := g2 c cl' hcl
          have hcw : c < cols.length := (List.getElem?_eq_some_iff.1 hcl1).1
          refine ⟨by simp [Cont.width, g1]; exact hcw, ?_⟩
          simp only [Cont.width, g1]
          rcases Col.app_at happ (Option.some.inj ha) with ⟨hlt, hat⟩ | ⟨j, hj, rfl⟩
          · obtain ⟨_, x, e1, e2⟩ := hr r c a (by simp only [Cont.at, hcl1, hat])
            have hm : r * cols.length + cols.length ≤ n * cols.length := by
              have := Nat.mul_le_mul_right cols.length (show r + 1 ≤ n from hlt)
              rw [Nat.add_mul, Nat.one_mul] at this
              exact this
            exact ⟨x, h1 _ (by omega) x (by simpa [Cont.width] using e1), e2⟩
          · cases j with
            | succ j => simp at hj
            | zero =>
              simp at hj
              subst hj
              obtain ⟨x, e1, e2⟩ := hx.at_ ha1
              exact ⟨x, h2 c x e1, e2⟩
        · cases ha
      · cases h
    · cases h
  | obj q => cases h
/-- A slice of which nothing is known yet. -/
def Col.empty : AV → Option Col
  | .val (.int k _) => some (.ints k [])
  | .val (.bool _) => some (.bools [])
  | .val (.string _) => some (.strs [])
  | _ => none
def empties : List AV → Option (List Col)
  | [] => some []
  | a :: r => match Col.empty a with
    | some c => match empties r with
      | some cs => some (c :: cs)
      | none => none
    | none => none
def nilCont (z : Nat) (cs : List AV) : Cont := match Nat.beq z 1 with
  | true => match cs with
    | a :: _ => match Col.empty a with
      | some c => .col c
      | none => .cells []
    | [] => .cells []
  | false => match Nat.beq cs.length z with
    | true => match empties cs with
      | some cols => .rows cols
      | none => .cells []
    | false => .cells []
theorem Col.empty_at {a a' : AV} {c : Col} {r : Nat} (h : Col.empty a = some c) : c.at r ≠ (a', true) := by
  unfold Col.empty at h
  split at h <;> cases h <;> simp [Col.at]
theorem empties_at : ∀ {l : List AV} {cs : List Col} {i : Nat} {c : Col} {r : Nat} {a' : AV}, empties l = some cs → cs[i]? = some c → c.at r ≠ (a', true)
  | [], cs, i, c, r, a', h, hc => by cases h; simp at hc
  | a :: l, cs, i, c, r, a', h, hc => by
    simp only [empties] at h
    split at h
    · rename_i c1 h1
      split at h
      · rename_i cs1 h2
        cases h
        cases i with
        | zero => simp at hc; subst hc; exact Col.empty_at h1
        | succ i => simp at hc; exact empties_at h2 hc
      · cases h
    · cases h
theorem nilCont_at {z : Nat} {cs : List AV} {r c : Nat} {a : AV} : (nilCont z cs).at r c ≠ some (a, true) := by
  have hcells : (Cont.cells []).at r c ≠ some (a, true) := by
    cases c <;> simp [Cont.at]
  unfold nilCont
  split
  · split
    · split
      · rename_i hc
        cases c <;> simp only [Cont.at] <;> try exact fun h => by cases h
        exact fun h => Col.empty_at hc (Option.some.inj h)
      · exact hcells
    · exact hcells
  · split
    · split
      · rename_i cols hc
        simp only [Cont.at]
        intro h
        split at h
        · rename_i cl hcl
          exact empties_at hc hcl (Option.some.inj h)
        · cases h
      · exact hcells
    · exact hcells
def allScalar : List AV → Bool
  | [] => true
  | a :: r => match a.scalar with
    | true => allScalar r
    | false => false
theorem allScalar_rels {ρ : Rho} {nx : Nat} : ∀ {l : List AV} {xs : List Value}, allScalar l = true → AV.rels ρ nx l xs → ∀ u ∈ xs, u.oneCell' = true
  | [], xs, _, h, u, hu => by simp only [AV.rels] at h; subst h; simp at hu
  | a :: l, xs, hs, h, u, hu => by
    simp only [AV.rels] at h
    obtain ⟨y, ys, rfl, h1, h2⟩ := h
    simp only [allScalar] at hs
    split at hs
    · rename_i ha
      rcases List.mem_cons.1 hu with rfl | hu
      · exact AV.scalar_rel ha h1
      · exact allScalar_rels hs h2 u hu
    · cases hs
/-- What is put behind. -/
def newsA (m : MS) (b : AV) (z : Nat) : Option (Nat × List AV) := match b with
  | .sl _ l w r s cnt _ => match Nat.beq z (s * w) with
    | true => match look m.bl l with
      | some bk => match Nat.beq bk.cont.width w with
        | true => match loadN bk.cont w r 0 (cnt * z) 0 with
          | some (cs, []) => match allScalar cs with
            | true => some (cnt, cs)
            | false => none
          | _ => none
        | false => none
      | none => none
    | false => none
  | _ => none
section
variable {P : Program} {ρ : Rho} {m : MS} {w : World} {nx : Nat}
theorem cells_vals {cell : Nat → Option Value} : ∀ (l : List AV) (o : Nat), (∀ j a, l[j]? = some a → ∃ x, cell (o + j) = some x ∧ AV.rel ρ nx a x) → ∃ xs : List Value, AV.rels ρ nx l xs ∧ ∀ j x, xs[j]? = some x → cell (o + j) = some x
  | [], o, _ => ⟨[], by simp [AV.rels], fun j x h => by simp at h⟩
  | a :: l, o, h => by
    obtain ⟨x, h1, h2⟩ := h 0 a rfl
    obtain ⟨xs, g1, g2⟩ := cells_vals l (o + 1) (fun j a' hj => by
      obtain ⟨y, e1, e2⟩ := h (j + 1) a' (by simpa using hj)
      exact ⟨y, by rw [← e1]; congr 1; omega, e2⟩)
    refine ⟨x :: xs, by simp only [AV.rels]; exact ⟨x, xs, rfl, h2, g1⟩, fun j y hj => ?_⟩
    cases j with
    | zero => simp at hj; subst hj; simpa using h1
    | succ j =>
      simp at hj
      have := g2 j y hj
      rw [← this]; congr 1; omega
theorem Cont.cells_take {cs : List AV} {cell : Nat → Option Value} (h : (Cont.cells cs).rel ρ nx cell) (n : Nat) : ∃ xs : List Value, AV.rels ρ nx (cs.take n) xs ∧ ∀ j x, xs[j]? = some x → cell j = some x := by
  obtain ⟨xs, h1, h2⟩ := cells_vals (ρ := ρ) (nx := nx) (cell := cell) (cs.take n) 0 (fun j a hj => by
    have hj' : cs[j]? = some a := by
      rw [List.getElem?_take] at hj
      split at hj
      · exact hj
      · cases hj
    obtain ⟨_, x, g1, g2⟩ := h j 0 a (by simp only [Cont.at, hj'])
    exact ⟨x, by simpa [Cont.width] using g1, g2⟩)
  exact ⟨xs, h1, fun j x hj => by simpa using h2 j x hj⟩
theorem newsA_ok {b : AV} {z cnt : Nat} {cs : List AV} {y : Value} (h : newsA m b z = some (cnt, cs)) (h0 : 0 < cnt) (hm : MRel ρ m w) (hy : AV.rel ρ m.nx b y) :
    ∃ a c news, y = .slice (some a) cnt c ∧ news.length = cnt * z ∧ (∀ j u, news[j]? = some u → w.cell? (a.add j) = some u) ∧ (∀ u ∈ news, u.oneCell' = true) ∧ AV.rels ρ m.nx cs news := by
  unfold newsA at h
  split at h
  · rename_i nn l wd r s n cap
    split at h
    · rename_i hz
      have hz := Nat.eq_of_beq_eq_true hz
      split at h
      · rename_i bk hl
        split at h
        · rename_i hw
          have hw := Nat.eq_of_beq_eq_true hw
          subst hw
          split at h
          · rename_i cs' hld
            split at h
            · rename_i hsc
              cases h
              simp only [AV.rel] at hy
              obtain ⟨_, A, c, rfl, _, hA, _⟩ := hy
              have hA := hA h0
              subst hA
              obtain ⟨news, g1, g2, g3⟩ := loadN_ok (hm.blk _ _ hl).2.rel r 0 _ _ _ _ hld rfl
              refine ⟨_, c, news, rfl, g2, fun j u hj => ?_, allScalar_rels hsc g1, g1⟩
              rw [add_none]
              simpa [Nat.add_assoc] using g3 j u hj
            · cases h
          · cases h
        · cases h
      · cases h
    · cases h
  · cases h
def strideOf (w z : Nat) : Nat := match Nat.beq w 1 with
  | true => z
  | false => 1
def appendA (P : Program) (m : MS) (t : TypeId) (a b : AV) : Option (AV × MS × List Bool) := match P.underlying t with
  | some (.slice e) => match P.info? e with
    | some i => match i.zero with
      | some zv => match Nat.beq zv.cells.size i.size with
        | true => match newsA m b i.size with
          | some (cnt, cs) => match Nat.blt 0 cnt && Nat.blt 0 i.bytes with
            | true => match a with
              | .val (.slice none 0 0) => match (nilCont i.size cs).app i.size 0 cs with
                | some (k, bs) => match Nat.beq (strideOf k.width i.size * k.width) i.size with
                  | true => some (.sl true m.nx k.width 0 (strideOf k.width i.size) cnt none, ⟨(m.nx, some ⟨true, true, k⟩) :: m.bl, m.nx + 1⟩, decide (cnt * i.bytes ≤ 140737488355328) :: bs)
                  | false => none
                | none => none
              | .sl _ l wd 0 s n none => match look m.bl l with
                | some ⟨true, true, k⟩ => match Nat.beq (s * wd) i.size && Nat.beq k.width wd with
                  | true => match k.app i.size n cs with
                    | some (k', bs) => some (.sl true m.nx wd 0 s (n + cnt) none, ⟨(m.nx, some ⟨true, true, k'⟩) :: upd m.bl l none, m.nx + 1⟩, decide (0 < n) :: decide ((n + cnt) * i.bytes ≤ 140737488355328) :: bs)
                    | none => none
                  | false => none
                | _ => none
              | .sl _ l 1 0 s n (some c) => match look m.bl l with
                | some ⟨_, _, .cells l0⟩ => match Nat.beq s i.size && (Nat.blt 0 n && (Nat.blt c (n + cnt) && Nat.ble (n * i.size) l0.length)) with
                  | true => match (nilCont i.size (l0.take (n * i.size) ++ cs)).app i.size 0 (l0.take (n * i.size) ++ cs) with
                    | some (k, bs) => match Nat.beq (strideOf k.width i.size * k.width) i.size with
                      | true => some (.sl true m.nx k.width 0 (strideOf k.width i.size) (n + cnt) none, ⟨(m.nx, some ⟨true, true, k⟩) :: m.bl, m.nx + 1⟩, decide ((n + cnt) * i.bytes ≤ 140737488355328) :: bs)
                      | false => none
                    | none => none
                  | false => none
                | _ => none
              | _ => none
            | false => none
          | none => none
        | false => none
      | none => none
    | none => none
  | _ => none
/-- One operation that makes or writes memory, under what must be so. -/
theorem run_append_room' (t ty e e' : TypeId) (i : TypeInfo) (ht : P.underlying t = some (.slice e)) (hi : P.info? e = some i)
    (g sLen sCap : Nat) (cur : Array Value) (hg : w.heap[g]? = some (.cells cur e' (0, 0)))
    (a : Addr) (n c : Nat) (news : List Value) (hl : news.length = n * i.size) (hnews : ∀ j u, news[j]? = some u → w.cell? (a.add j) = some u) (h1 : ∀ u ∈ news, u.oneCell' = true)
    (hroom : sLen + n ≤ sCap) (hfit : sLen * i.size + news.length ≤ cur.size) :
    (Builtin.append_ #[t, t] ty #[.slice (some ⟨g, 0, none⟩) sLen sCap, .slice (some a) n c]).run P w =
      .ok (.slice (some ⟨g, 0, none⟩) (sLen + n) sCap) (w.setRow g (cur.toList.take (sLen * i.size) ++ news ++ cur.toList.drop (sLen * i.size + news.length)).toArray) := by
  have hf := run_firstCells_some (P := P) w i.size n a n c news hl hnews
  have hst := run_storeCells_at P g (sLen * i.size) e' news 0 cur w hg (by simpa using hfit) h1
  simp only [Nat.add_zero] at hst
  simp [Builtin.append_, run_underlying ht, sizeOf, typeInfo, hi, Builtin.lenOf, hroom, hf, Addr.add_lit, hst]
/-- A block of the call's own under a new name. -/
theorem MRel.turn {l : Nat} {b : ABlk} {k' : Cont} {w' : World} (h : MRel ρ m w) (hl : look m.bl l = some b) (hw : b.wr = true) (hsz : w'.heap.size = w.heap.size) (hos : w'.os = w.os) (htp : w'.tape = w.tape) (hout : w'.output = w.output)
    (hoth : ∀ g, g ≠ (ρ l).b → w'.heap[g]? = w.heap[g]?) (hok : (⟨true, true, k'⟩ : ABlk).ok ρ m.nx (ρ l) w') :
    MRel (ρ.new m.nx (ρ l)) ⟨(m.nx, some ⟨true, true, k'⟩) :: upd m.bl l none, m.nx + 1⟩ w' ∧ Moves m.nx ρ (ρ.new m.nx (ρ l)) m ⟨(m.nx, some ⟨true, true, k'⟩) :: upd m.bl l none, m.nx + 1⟩ w w' := by
  have hext : ∀ j, j < m.nx → (ρ.new m.nx (ρ l)) j = ρ j := fun j hj => by unfold Rho.new; rw [if_neg (by omega)]
  have hself : (ρ.new m.nx (ρ l)) m.nx = ρ l := by simp [Rho.new]
  have key : ∀ j b', look ((m.nx, some (⟨true, true, k'⟩ : ABlk)) :: upd m.bl l none) j = some b' → (j = m.nx ∧ b' = ⟨true, true, k'⟩) ∨ (j < m.nx ∧ j ≠ l ∧ look m.bl j = some b') := fun j b' hj => by
    rw [look_cons] at hj
    split at hj
    · rename_i e; cases hj; exact .inl ⟨e.symm, rfl⟩
    · rw [look_upd] at hj
      split at hj
      · cases hj
      · rename_i e; exact .inr ⟨(h.blk j b' hj).1, Ne.symm e, hj⟩
  refine ⟨⟨fun j b' hj => ?_, fun j b1 j' b2 h1 h2 hw1 hne hnv => ?_⟩, ⟨hext, Nat.le_succ _, hos, htp, hout, by omega, fun g hg hn => hoth g (fun e => hn ⟨l, b, hl, hw, e.symm⟩), fun g ⟨j, b', h1, h2, h3⟩ => .inl ?_⟩⟩
  · rcases key j b' hj with ⟨rfl, rfl⟩ | ⟨hlt, hne, hj⟩
    · refine ⟨Nat.lt_succ_self _, ?_⟩
      rw [hself]
      exact ⟨hok.lt, hok.rel.ext hext (Nat.le_succ _) (fun _ _ hx => hx), hok.free, hok.room, fun q hq => (hok.obj q hq).ext hext (Nat.le_succ _) rfl⟩
    · refine ⟨Nat.lt_succ_of_lt hlt, ?_⟩
      rw [hext j hlt]
      by_cases hv : b'.void
      · exact ABlk.ok.any hv _
      · exact ((h.blk j b' hj).2).ext hext (Nat.le_succ _) (by omega) (hoth _ (h.apart l b j b' hl hj hw hne hv))
  · rcases key j b1 h1 with ⟨rfl, rfl⟩ | ⟨hlt, hjl, hj⟩
    · rcases key j' b2 h2 with ⟨rfl, _⟩ | ⟨hlt', hjl', hj'⟩
      · exact absurd rfl hne
      · rw [hself, hext j' hlt']
        exact h.apart l b j' b2 hl hj' hw hjl' hnv
    · rcases key j' b2 h2 with ⟨rfl, rfl⟩ | ⟨hlt', hjl', hj'⟩
      · rw [hself, hext j hlt]
        exact h.apart j b1 l b hj hl hw1 (Ne.symm hjl) (wr_not_void hw)
      · rw [hext j hlt, hext j' hlt']
        exact h.apart j b1 j' b2 hj hj' hw1 hne hnv
  · rcases key j b' h1 with ⟨rfl, rfl⟩ | ⟨hlt, hjl, hj⟩
    · rw [hself] at h3
      exact ⟨l, b, hl, hw, h3⟩
    · rw [hext j hlt] at h3
      exact ⟨j, b', hj, h2, h3⟩

theorem look_sub {bl bl' : List (Nat × Option ABlk)} {k : Nat} {o : Option ABlk} (h : ∀ l b, look bl' l = some b → look bl l = some b) : ∀ l b, look ((k, o) :: bl') l = some b → look ((k, o) :: bl) l = some b := fun l b hl => by
  rw [look_cons] at hl ⊢
  split
  · rename_i e; rw [if_pos e] at hl; exact hl
  · rename_i e; rw [if_neg e] at hl; exact h l b hl
theorem upd_sub {bl : List (Nat × Option ABlk)} {k : Nat} : ∀ l b, look (upd bl k none) l = some b → look bl l = some b := fun l b hl => by
  rw [look_upd] at hl
  split at hl
  · cases hl
  · exact hl
/-- A new row of cells. -/
theorem fresh_row {k : Cont} {e : TypeId} {arr : Array Value} {wd s n c : Nat} {bl' : List (Nat × Option ABlk)} (hm : MRel ρ m w) (hr : k.rel ρ m.nx (fun j => arr[j]?)) (hsz : c * (s * wd) ≤ arr.size) (hn : n ≤ c) (hbl : ∀ l b, look bl' l = some b → look m.bl l = some b) (hp : k.plain = true) :
    ∃ ρ', AV.rel ρ' (m.nx + 1) (.sl true m.nx wd 0 s n none) (.slice (some ⟨w.heap.size, 0, none⟩) n c) ∧ MRel ρ' ⟨(m.nx, some ⟨true, true, k⟩) :: bl', m.nx + 1⟩ (w.alloc (.cells arr e)) ∧ Moves m.nx ρ ρ' m ⟨(m.nx, some ⟨true, true, k⟩) :: bl', m.nx + 1⟩ w (w.alloc (.cells arr e)) := by
  obtain ⟨h1, h2⟩ := hm.alloc (b := ⟨true, true, k⟩) (cs := arr) (t := e) (cap := arr.size) hr (fun _ => ⟨rfl, Nat.le_refl _⟩) hp
  refine ⟨_, ?_, h1.less (Nat.le_refl _) (look_sub hbl), ⟨h2.ext, h2.nx, h2.os, h2.tape, h2.output, h2.size, h2.keep, fun g ⟨l, b, g1, g2, g3⟩ => h2.fresh g ⟨l, b, look_sub hbl l b g1, g2, g3⟩⟩⟩
  simp only [AV.rel, Rho.new, if_true]
  exact ⟨Nat.lt_succ_self _, _, c, rfl, hn, fun _ => by simp, fun _ => rfl, by omega⟩
theorem fresh_drew {k : Cont} {e : TypeId} {arr : Array Value} {wd s n c : Nat} {bl' : List (Nat × Option ABlk)} (hm : MRel ρ m w) (hr : k.rel ρ m.nx (fun j => arr[j]?)) (hsz : c * (s * wd) ≤ arr.size) (hn : n ≤ c) (hbl : ∀ l b, look bl' l = some b → look m.bl l = some b) (hp : k.plain = true) :
    ∃ ρ', AV.rel ρ' (m.nx + 1) (.sl true m.nx wd 0 s n none) (.slice (some ⟨w.heap.size, 0, none⟩) n c) ∧ MRel ρ' ⟨(m.nx, some ⟨true, true, k⟩) :: bl', m.nx + 1⟩ (w.drew.alloc (.cells arr e)) ∧ Moves m.nx ρ ρ' m ⟨(m.nx, some ⟨true, true, k⟩) :: bl', m.nx + 1⟩ w (w.drew.alloc (.cells arr e)) := by
  obtain ⟨ρ', h1, h2, h3⟩ := fresh_row (w := w.drew) (e := e) hm.drew hr hsz hn hbl hp
  exact ⟨ρ', h1, h2, (Moves.drew (Nat.le_refl _)).trans h3⟩
set_option maxHeartbeats 800000 in
theorem appendA_ok {t ty : TypeId} {a b v : AV} {m' : MS} {bs : List Bool} {x y : Value} (h : appendA P m t a b = some (v, m', bs)) (hm : MRel ρ m w) (hx : AV.rel ρ m.nx a x) (hy : AV.rel ρ m.nx b y) (hbs : bs.all id = true) : MemOk P (Builtin.append_ #[t, t] ty #[x, y]) ρ m w v m' := by
  unfold appendA at h
  split at h <;> try cases h
  rename_i e hu
  split at h <;> try cases h
  rename_i i hi
  split at h <;> try cases h
  rename_i zv hz
  split at h <;> try cases h
  rename_i hzs
  have hzs := Nat.eq_of_beq_eq_true hzs
  split at h <;> try cases h
  rename_i cnt cs hnews
  split at h <;> try cases h
  rename_i h01
  simp only [Bool.and_eq_true, Nat.blt_eq] at h01
  obtain ⟨h0, hby⟩ := h01
  obtain ⟨ad, c2, news, rfl, hl, hnw, hone, hrel⟩ := newsA_ok hnews h0 hm hy
  split at h
  · -- nil
    split at h <;> try cases h
    rename_i k bs' happ
    split at h <;> try cases h
    rename_i hst
    have hst := Nat.eq_of_beq_eq_true hst
    simp only [AV.rel] at hx
    subst hx
    obtain ⟨hb1, hb2⟩ := all_cons hbs
    have hb1 : cnt * i.bytes ≤ 140737488355328 := by simpa using hb1
    have hcnt : cnt ≤ cnt * i.bytes := Nat.le_mul_of_pos_right _ hby
    have hr := run_append_nil (P := P) w t ty e i zv hu hi hz ad cnt c2 news hl hnw h0 (by omega) (by omega)
    have hge := grownCap_ge w cnt 0 e
    obtain ⟨g1, _⟩ := Cont.app_rel (cell' := fun j => (news.toArray ++ Builtin.zeroCells zv.cells (grownCap w cnt 0 e - cnt))[j]?) happ hb2 (cell := fun _ => none) (fun r c a' ha' => absurd ha' nilCont_at) hrel (fun j hj => by omega) (fun j u hj => by
      rw [Nat.zero_mul, Nat.zero_add, Array.getElem?_append_left (by have := (List.getElem?_eq_some_iff.1 hj).1; simpa using this)]
      simpa using hj)
    obtain ⟨ρ', e1, e2, e3⟩ := fresh_drew (e := e) (wd := k.width) (s := strideOf k.width i.size) (n := cnt) (c := grownCap w cnt 0 e) (bl' := m.bl) hm g1 (by
      rw [hst, Array.size_append, size_zeroCells, hzs]
      simp only [List.size_toArray, hl, ← Nat.add_mul]
      exact Nat.mul_le_mul_right _ (by omega)) hge (fun _ _ h => h) (Cont.app_plain happ)
    exact ⟨ρ', _, _, hr, e1, e2, e3⟩
  · -- its own
    rename_i nn l wd s n
    split at h <;> try cases h
    rename_i k hlk
    split at h <;> try cases h
    rename_i hck
    rw [Bool.and_eq_true] at hck
    have hsw := Nat.eq_of_beq_eq_true hck.1
    have hwd := Nat.eq_of_beq_eq_true hck.2
    subst hwd
    split at h <;> try cases h
    rename_i k' bs' happ
    obtain ⟨hb0, hbs⟩ := all_cons hbs
    obtain ⟨hb1, hb2⟩ := all_cons hbs
    have hn0 : 0 < n := by simpa using hb0
    have hb1 : (n + cnt) * i.bytes ≤ 140737488355328 := by simpa using hb1
    have hcnt : n + cnt ≤ (n + cnt) * i.bytes := Nat.le_mul_of_pos_right _ hby
    simp only [AV.rel] at hx
    obtain ⟨hlx, A, c, rfl, hnc, hA, _, hcap⟩ := hx
    have hA := hA hn0
    subst hA
    obtain ⟨hlt, hok⟩ := hm.blk l _ hlk
    obtain ⟨_, ho, cur, e', hg, hcs⟩ := hok.room rfl
    rw [hsw] at hcap
    simp only [Nat.zero_mul, Nat.zero_add] at hcap
    have hold : ∀ j, j < n * i.size → cur[j]? = w.cell? ⟨(ρ l).b, (ρ l).o + j, none⟩ := fun j hj => by
      rw [ho]; simp [World.cell?, hg]
    have hns : n * i.size ≤ c * i.size := Nat.mul_le_mul_right _ hnc
    have ea : (⟨(ρ l).b, (ρ l).o + 0 * k.width, none⟩ : Addr) = ⟨(ρ l).b, 0, none⟩ := by rw [ho, Nat.zero_mul]
    rw [ea]
    by_cases hroom : n + cnt ≤ c
    · have hfit : n * i.size + news.length ≤ cur.size := by
        have : (n + cnt) * i.size ≤ c * i.size := Nat.mul_le_mul_right _ hroom
        rw [Nat.add_mul] at this
        omega
      have hr := run_append_room' (P := P) (w := w) t ty e e' i hu hi (ρ l).b n c cur hg ad cnt c2 news hl hnw hone hroom hfit
      have hlen : (cur.toList.take (n * i.size) ++ news ++ cur.toList.drop (n * i.size + news.length)).length = cur.size := by
        simp only [List.length_append, List.length_take, List.length_drop, Array.length_toList]
        omega
      have hrow := setRow_heap w (ρ l).b cur (cur.toList.take (n * i.size) ++ news ++ cur.toList.drop (n * i.size + news.length)).toArray e' (0, 0) hg
      obtain ⟨g1, g2⟩ := Cont.app_rel (cell' := fun j => (w.setRow (ρ l).b (cur.toList.take (n * i.size) ++ news ++ cur.toList.drop (n * i.size + news.length)).toArray).cell? ⟨(ρ l).b, (ρ l).o + j, none⟩) happ hb2 hok.rel hrel
        (fun j hj x hx => by
          have hx : w.cell? ⟨(ρ l).b, (ρ l).o + j, none⟩ = some x := hx
          rw [← hold j hj] at hx
          rw [ho]
          simp only [World.cell?, hrow, Nat.zero_add]
          simp only [List.append_assoc, List.getElem?_toArray]
          rw [List.getElem?_append_left (by simp; omega), List.getElem?_take_of_lt hj]
          simpa using hx)
        (fun j u hj => by
          have hjl := (List.getElem?_eq_some_iff.1 hj).1
          rw [ho]
          simp only [World.cell?, hrow, Nat.zero_add]
          simp only [List.append_assoc, List.getElem?_toArray]
          rw [List.getElem?_append_right (by simp; omega)]
          simp only [List.length_take, Array.length_toList, Nat.min_eq_left (show n * i.size ≤ cur.size by omega), Nat.add_sub_cancel_left]
          rw [List.getElem?_append_left hjl]
          exact hj)
      obtain ⟨e1, e2⟩ := MRel.turn (k' := k') (w' := w.setRow (ρ l).b (cur.toList.take (n * i.size) ++ news ++ cur.toList.drop (n * i.size + news.length)).toArray) hm hlk rfl (by simp [World.setRow]) rfl rfl rfl (fun g hg => setRow_other w _ g _ hg)
        ⟨.inl (by
            rcases hok.lt with h | h
            · simpa [World.setRow] using h
            · exact absurd h (wr_not_void rfl)), g1, (fun _ j => by simp only [World.frozen?, hrow]; simp), (fun _ => ⟨rfl, ho, _, e', hrow, by rw [List.size_toArray, hlen]; exact hcs⟩), fun q hq => absurd hq (Cont.plain_ne (Cont.app_plain happ) q)⟩
      refine ⟨_, _, _, hr, ?_, e1, e2⟩
      simp only [AV.rel, Rho.new, if_true]
      refine ⟨Nat.lt_succ_self _, _, c, rfl, hroom, fun _ => by rw [ho]; simp, fun _ => rfl, ?_⟩
      rw [hsw]; omega
    · obtain ⟨olds, ho1, ho2⟩ : ∃ olds : List Value, olds.length = n * i.size ∧ ∀ j u, olds[j]? = some u → cur[j]? = some u := ⟨cur.toList.take (n * i.size), by simp; omega, fun j u hj => by
        rw [List.getElem?_take] at hj
        split at hj
        · simpa using hj
        · cases hj⟩
      have hr := run_append_grow (P := P) w t ty e i zv hu hi hz ⟨(ρ l).b, 0, none⟩ n c olds ho1 (fun j u hj => by
        rw [add_none, Nat.zero_add]; simp only [World.cell?, hg]; exact ho2 j u hj) ad cnt c2 news hl hnw (by omega) (by omega) (growslice_fits (by omega) hb1)
      have hge := grownCap_ge w (n + cnt) c e
      obtain ⟨g1, g2⟩ := Cont.app_rel (cell' := fun j => (olds.toArray ++ news.toArray ++ Builtin.zeroCells zv.cells (grownCap w (n + cnt) c e - (n + cnt)))[j]?) happ hb2 hok.rel hrel
        (fun j hj x hx => by
          have hx : w.cell? ⟨(ρ l).b, (ρ l).o + j, none⟩ = some x := hx
          rw [← hold j hj] at hx
          have : olds[j]? = some x := by
            have hjl : j < olds.length := by omega
            have h3 := ho2 j olds[j] (by simp [hjl])
            rw [hx] at h3
            cases h3
            simp [hjl]
          rw [Array.append_assoc, Array.getElem?_append_left (by simp; omega)]
          simpa using this)
        (fun j u hj => by
          have hjl := (List.getElem?_eq_some_iff.1 hj).1
          rw [Array.append_assoc, Array.getElem?_append_right (by simp; omega)]
          simp only [List.size_toArray, ho1, Nat.add_sub_cancel_left]
          rw [Array.getElem?_append_left (by simpa using hjl)]
          simpa using hj)
      obtain ⟨ρ', e1, e2, e3⟩ := fresh_drew (e := e) (wd := k.width) (s := s) (n := n + cnt) (c := grownCap w (n + cnt) c e) (bl' := upd m.bl l none) hm g1 (by
        rw [hsw]
        simp only [Array.size_append, size_zeroCells, hzs, List.size_toArray, ho1, hl, ← Nat.add_mul]
        exact Nat.mul_le_mul_right _ (by omega)) hge upd_sub (Cont.app_plain happ)
      exact ⟨ρ', _, _, hr, e1, e2, e3⟩
  · -- one that is full
    rename_i nn l s n c
    split at h <;> try cases h
    rename_i wr op l0 hlk
    split at h <;> try cases h
    rename_i hck
    simp only [Bool.and_eq_true, Nat.blt_eq, Nat.ble_eq] at hck
    obtain ⟨hs, hn0, hfull, hl0⟩ := hck
    have hs := Nat.eq_of_beq_eq_true hs
    subst hs
    split at h <;> try cases h
    rename_i k bs' happ
    split at h <;> try cases h
    rename_i hst
    have hst := Nat.eq_of_beq_eq_true hst
    obtain ⟨hb1, hb2⟩ := all_cons hbs
    have hb1 : (n + cnt) * i.bytes ≤ 140737488355328 := by simpa using hb1
    have hcnt : n + cnt ≤ (n + cnt) * i.bytes := Nat.le_mul_of_pos_right _ hby
    simp only [AV.rel] at hx
    obtain ⟨hlx, A, c', rfl, hnc, hA, _, hcap⟩ := hx
    have hA := hA hn0
    subst hA hcap
    obtain ⟨hlt, hok⟩ := hm.blk l _ hlk
    obtain ⟨olds, g1, g2⟩ := Cont.cells_take hok.rel (n * i.size)
    have ho1 : olds.length = n * i.size := by rw [← g1.len]; simp [Nat.min_eq_left hl0]
    have hr := run_append_grow (P := P) w t ty e i zv hu hi hz ⟨(ρ l).b, (ρ l).o + 0 * 1, none⟩ n c' olds ho1 (fun j u hj => by
      rw [add_none, Nat.zero_mul, Nat.add_zero]; exact g2 j u hj) ad cnt c2 news hl hnw (by omega) (by omega) (growslice_fits (by omega) hb1)
    have hge := grownCap_ge w (n + cnt) c' e
    obtain ⟨e0, _⟩ := Cont.app_rel (cell' := fun j => (olds.toArray ++ news.toArray ++ Builtin.zeroCells zv.cells (grownCap w (n + cnt) c' e - (n + cnt)))[j]?) happ hb2 (cell := fun _ => none) (fun r c a' ha' => absurd ha' nilCont_at) (g1.append hrel) (fun j hj => by omega) (fun j u hj => by
      have hjl := (List.getElem?_eq_some_iff.1 hj).1
      rw [Nat.zero_mul, Nat.zero_add, Array.getElem?_append_left (by simpa using hjl)]
      simpa using hj)
    obtain ⟨ρ', e1, e2, e3⟩ := fresh_drew (e := e) (wd := k.width) (s := strideOf k.width i.size) (n := n + cnt) (c := grownCap w (n + cnt) c' e) (bl' := m.bl) hm e0 (by
      rw [hst]
      simp only [Array.size_append, size_zeroCells, hzs, List.size_toArray, ho1, hl, ← Nat.add_mul]
      exact Nat.mul_le_mul_right _ (by omega)) hge (fun _ _ h => h) (Cont.app_plain happ)
    exact ⟨ρ', _, _, hr, e1, e2, e3⟩
  · cases h

/-- The text of bytes. -/
def strOf (zs : List Int) : ByteArray := zs.foldl (fun r n => r.push (UInt8.ofNat n.toNat)) ByteArray.empty
def convM (P : Program) (m : MS) (src dst : TypeId) (a : AV) : Option (AV × List Bool) := match P.underlying src, P.underlying dst with
  | some (.slice e), some .string => match P.underlying e with
    | some (.int .u8) => match a with
      | .val (.slice none _ _) => some (.val (.string ByteArray.empty), [])
      | .sl _ l 1 r 1 n _ => match look m.bl l with
        | some ⟨_, _, .col (.ints .u8 zs)⟩ => some (.val (.string (strOf ((zs.drop r).take n))), [decide (r + n ≤ zs.length)])
        | some ⟨_, _, .cells cs⟩ => match intsOf .u8 ((cs.drop r).take n) with
          | some xs => match Nat.beq xs.length n with
            | true => some (.val (.string (strOf xs)), [])
            | false => none
          | none => none
        | _ => none
      | _ => none
    | _ => none
  | _, _ => none
theorem convM_ok {src dst : TypeId} {a v : AV} {bs : List Bool} {x : Value} (h : convM P m src dst a = some (v, bs)) (hm : MRel ρ m w) (hx : AV.rel ρ m.nx a x) (hbs : bs.all id = true) : PureOk P (convert src dst x) ρ m.nx w v := by
  unfold convM at h
  split at h <;> try cases h
  rename_i e hs hd
  split at h <;> try cases h
  rename_i he
  have main : ∀ (l r n : Nat) (A : Option Addr) (c : Nat) (xs : List Int), (0 < n → A = some ⟨(ρ l).b, (ρ l).o + r * 1, none⟩) → xs.length = n → (∀ j z, xs[j]? = some z → w.cell? ⟨(ρ l).b, (ρ l).o + (r + j), none⟩ = some (.int .u8 z)) →
      PureOk P (convert src dst (.slice A n c)) ρ m.nx w (.val (.string (strOf xs))) := fun l r n A c xs hA hlen hcell => by
    refine mkPure (.string (strOf xs)) ?_ (by simp [AV.rel])
    rw [run_convert_bytes_string w src dst e A n c hs he hd]
    cases A with
    | none =>
      have h0 : n = 0 := by
        cases n with
        | zero => rfl
        | succ n => have := hA (by omega); cases this
      subst h0
      have : xs = [] := List.eq_nil_of_length_eq_zero hlen
      subst this
      rfl
    | some ad =>
      refine run_bytesToString w ad n c xs ?_
      have := run_loadCells_list (P := P) w ad (xs.map (Value.int .u8)) (fun j v hj => by
        simp only [List.getElem?_map, Option.map_eq_some_iff] at hj
        obtain ⟨z, hz, rfl⟩ := hj
        have hj0 := (List.getElem?_eq_some_iff.1 hz).1
        have := hA (by omega)
        cases this
        rw [add_none, ← hcell j z hz]
        congr 2
        omega)
      simpa [hlen] using this
  split at h
  · cases h
    simp only [AV.rel] at hx
    subst hx
    refine mkPure (.string ByteArray.empty) ?_ (by simp [AV.rel])
    rw [run_convert_bytes_string w src dst e none _ _ hs he hd]
    rfl
  · rename_i nn l r n cap
    simp only [AV.rel] at hx
    obtain ⟨_, A, c, rfl, _, hA, _⟩ := hx
    split at h
    · rename_i wr op zs hl
      cases h
      have hn : r + n ≤ zs.length := by simpa using hbs
      refine main l r n A c _ hA (by simp; omega) (fun j z hz => ?_)
      have hj0 : j < n := by have := (List.getElem?_eq_some_iff.1 hz).1; simp at this; omega
      rw [List.getElem?_take_of_lt hj0, List.getElem?_drop] at hz
      obtain ⟨_, x, g1, g2⟩ := (hm.blk _ _ hl).2.rel (r + j) 0 (.val (.int .u8 z)) (by
        simp only [Cont.at, Col.at]
        rw [decide_eq_true (by omega), List.getD_eq_getElem?_getD, hz]; rfl)
      simp only [AV.rel] at g2
      subst g2
      simpa [Cont.width] using g1
    · rename_i wr op cs hl
      split at h <;> try cases h
      rename_i xs hxs
      split at h <;> try cases h
      rename_i hlen
      refine main l r n A c xs hA (Nat.eq_of_beq_eq_true hlen) (fun j z hz => ?_)
      have he := intsOf_eq hxs
      have hj0 : j < n := by have := (List.getElem?_eq_some_iff.1 hz).1; rw [Nat.eq_of_beq_eq_true hlen] at this; exact this
      have hj : ((cs.drop r).take n)[j]? = some (.val (.int .u8 z)) := by rw [he]; simp [hz]
      rw [List.getElem?_take_of_lt hj0, List.getElem?_drop] at hj
      obtain ⟨_, x, g1, g2⟩ := (hm.blk _ _ hl).2.rel (r + j) 0 (.val (.int .u8 z)) (by simp only [Cont.at, hj])
      simp only [AV.rel] at g2
      subst g2
      simpa [Cont.width] using g1
    · cases h
  · cases h
/-- A text's bytes. -/
def bytesOf (s : ByteArray) : List Int := s.data.toList.map fun b => (b.toNat : Int)
def convN (P : Program) (m : MS) (src dst : TypeId) (a : AV) : Option (AV × MS) := match P.underlying src, P.underlying dst with
  | some .string, some (.slice e) => match P.underlying e with
    | some (.int .u8) => match a with
      | .val (.string s) => some (.sl true m.nx 1 0 1 s.size none, m.new ⟨false, false, .col (.ints .u8 (bytesOf s))⟩)
      | _ => none
    | _ => none
  | _, _ => none
theorem MRel.allocF {b : ABlk} {cs : Array Value} {t : TypeId} {fz : Nat × Nat} {cap : Nat} (h : MRel ρ m w) (hr : b.cont.rel ρ m.nx (fun j => cs[j]?)) (hw : b.wr = false) (ho : b.op = false) (hp : b.cont.plain = true) :
    MRel (ρ.new m.nx ⟨w.heap.size, 0, cap⟩) ⟨(m.nx, some b) :: m.bl, m.nx + 1⟩ (w.alloc (.cells cs t fz)) ∧
    Moves m.nx ρ (ρ.new m.nx ⟨w.heap.size, 0, cap⟩) m ⟨(m.nx, some b) :: m.bl, m.nx + 1⟩ w (w.alloc (.cells cs t fz)) := by
  have hext : ∀ l, l < m.nx → (ρ.new m.nx ⟨w.heap.size, 0, cap⟩) l = ρ l := fun l hl => by unfold Rho.new; rw [if_neg (by omega)]
  have hnew : (w.alloc (.cells cs t fz)).heap[w.heap.size]? = some (.cells cs t fz) := by show (w.heap.push _)[w.heap.size]? = _; simp
  have hsz : (w.alloc (.cells cs t fz)).heap.size = w.heap.size + 1 := by show (w.heap.push _).size = _; simp
  refine ⟨⟨fun l b' hl => ?_, fun l1 b1 l2 b2 h1 h2 hw1 hne hnv => ?_⟩, ⟨hext, Nat.le_succ _, rfl, rfl, rfl, by rw [hsz]; omega, fun g hg _ => Below.heap_alloc _ _ _ hg, fun g hg => ?_⟩⟩
  · simp only [look_cons] at hl
    by_cases e : m.nx = l
    · subst e
      simp only [if_true, Option.some.injEq] at hl
      subst hl
      refine ⟨Nat.lt_succ_self _, ⟨.inl (by simp only [Rho.new, if_true]; omega), ?_, fun h => ?_, fun h => ?_, fun q hq => absurd hq (Cont.plain_ne hp q)⟩⟩
      · refine hr.ext hext (Nat.le_succ _) fun j x hx => ?_
        simp only [Rho.new, if_true, World.cell?, hnew]
        simpa using hx
      · rw [hw] at h; cases h
      · rw [ho] at h; cases h
    · rw [if_neg e] at hl
      obtain ⟨h1, h2⟩ := h.blk l b' hl
      rw [hext l h1]
      refine ⟨Nat.lt_succ_of_lt h1, ?_⟩
      rcases h2.lt with hlt | hv
      · exact h2.ext hext (Nat.le_succ _) (by rw [hsz]; omega) (Below.heap_alloc _ _ _ hlt)
      · exact ABlk.ok.any hv _
  · simp only [look_cons] at h1 h2
    by_cases e1 : m.nx = l1
    · rw [if_pos e1] at h1
      cases h1
      rw [hw] at hw1; cases hw1
    · rw [if_neg e1] at h1
      obtain ⟨g1, g2⟩ := h.blk l1 b1 h1
      rw [hext l1 g1]
      by_cases e2 : m.nx = l2
      · have := g2.lt.resolve_right (wr_not_void hw1)
        subst e2
        simp only [Rho.new, if_true]
        omega
      · rw [if_neg e2] at h2
        rw [hext l2 (h.blk l2 b2 h2).1]
        exact h.apart l1 b1 l2 b2 h1 h2 hw1 hne hnv
  · obtain ⟨l, b', h1, h2, h3⟩ := hg
    simp only [look_cons] at h1
    by_cases e : m.nx = l
    · subst e
      simp only [Rho.new, if_true] at h3
      exact .inr (by omega)
    · rw [if_neg e] at h1
      rw [hext l (h.blk l b' h1).1] at h3
      exact .inl ⟨l, b', h1, h2, h3⟩
theorem convN_ok {src dst : TypeId} {a v : AV} {m' : MS} {x : Value} (h : convN P m src dst a = some (v, m')) (hm : MRel ρ m w) (hx : AV.rel ρ m.nx a x) : MemOk P (convert src dst x) ρ m w v m' := by
  unfold convN at h
  split at h <;> try cases h
  rename_i e hs hd
  split at h <;> try cases h
  rename_i he
  split at h <;> try cases h
  rename_i s
  simp only [AV.rel] at hx
  subst hx
  have hrow : ∀ j z, (bytesOf s)[j]? = some z → (bytesRow s (grownCap w s.size 0 e))[j]? = some (Value.int .u8 z) := fun j z hj => by
    have hjl := (List.getElem?_eq_some_iff.1 hj).1
    unfold bytesOf at hj hjl
    unfold bytesRow
    rw [Array.getElem?_append_left (by simpa using hjl)]
    simp only [List.getElem?_map, Option.map_eq_some_iff] at hj
    obtain ⟨b, hb, rfl⟩ := hj
    simp at hb
    simp [hb]
  obtain ⟨h1, h2⟩ := hm.drew.allocF (b := ⟨false, false, .col (.ints .u8 (bytesOf s))⟩) (cs := bytesRow s (grownCap w s.size 0 e)) (t := e) (fz := ((bytesRow s (grownCap w s.size 0 e)).size, (bytesRow s (grownCap w s.size 0 e)).size + 1)) (cap := grownCap w s.size 0 e) (fun r c a ha => by
    cases c <;> simp only [Cont.at] at ha <;> try cases ha
    simp only [Col.at, Option.some.injEq, Prod.mk.injEq, decide_eq_true_eq] at ha
    obtain ⟨rfl, hlt⟩ := ha
    refine ⟨by simp [Cont.width], Value.int .u8 ((bytesOf s).getD r 0), ?_, by simp only [AV.rel]⟩
    have := hrow r ((bytesOf s).getD r 0) (by simp [hlt])
    simpa [Cont.width] using this) rfl rfl rfl
  refine ⟨_, _, _, run_bytes_of_string w src dst e s hs hd he, ?_, h1, (Moves.drew (Nat.le_refl _)).trans h2⟩
  simp only [AV.rel, MS.new, Rho.new, if_true]
  exact ⟨Nat.lt_succ_self _, _, _, rfl, grownCap_ge w s.size 0 e, fun _ => by simp, fun _ => rfl, by simp⟩
/-- The same cell many times. -/
def Col.rep : AV → Nat → Option Col
  | .val (.int k x), n => some (.ints k (List.replicate n x))
  | .val (.bool x), n => some (.bools (List.replicate n x))
  | .val (.string x), n => some (.strs (List.replicate n x))
  | _, _ => none
def reps : List AV → Nat → Option (List Col)
  | [], _ => some []
  | a :: r, n => match Col.rep a n with
    | some c => match reps r n with
      | some cs => some (c :: cs)
      | none => none
    | none => none
def repCont (z : List AV) (n : Nat) : Option Cont := match z with
  | [a] => match Col.rep a n with
    | some c => some (.col c)
    | none => none
  | _ => match reps z n with
    | some cs => some (.rows cs)
    | none => none
theorem Col.rep_at {a a' : AV} {n r : Nat} {c : Col} (h : Col.rep a n = some c) (ha : c.at r = (a', true)) : a' = a ∧ r < n := by
  unfold Col.rep at h
  split at h <;> cases h <;> simp only [Col.at, Prod.mk.injEq, decide_eq_true_eq, List.length_replicate] at ha <;> obtain ⟨rfl, hr⟩ := ha <;> exact ⟨by simp [hr], hr⟩
theorem reps_at : ∀ {z : List AV} {n : Nat} {cs : List Col}, reps z n = some cs → cs.length = z.length ∧ ∀ (i : Nat) (c : Col), cs[i]? = some c → ∃ a, z[i]? = some a ∧ Col.rep a n = some c
  | [], n, cs, h => by cases h; exact ⟨rfl, fun i c hc => by simp at hc⟩
  | a :: z, n, cs, h => by
    simp only [reps] at h
    split at h
    · rename_i c1 h1
      split at h
      · rename_i cs1 h2
        cases h
        obtain ⟨g1, g2⟩ := reps_at h2
        refine ⟨by simp [g1], fun i c hc => ?_⟩
        cases i with
        | zero => simp at hc; subst hc; exact ⟨a, rfl, h1⟩
        | succ i => simp at hc; obtain ⟨a', e1, e2⟩ := g2 i c hc; exact ⟨a', by simpa using e1, e2⟩
      · cases h
    · cases h
theorem repCont_rel {z : List AV} {zs : List Value} {n : Nat} {k : Cont} (h : repCont z n = some k) (hz : AV.rels ρ nx z zs) (h0 : z ≠ []) : k.rel ρ nx (fun j => (madeCells zs.toArray (n * z.length))[j]?) ∧ (k.width = 1 → z.length = 1) ∧ (k.width = z.length) := by
  have hat : ∀ j, j < n * z.length → ∀ a, z[j % z.length]? = some a → ∃ x, (madeCells zs.toArray (n * z.length))[j]? = some x ∧ AV.rel ρ nx a x := fun j hj a ha => by
    obtain ⟨x, g1, g2⟩ := hz.at_ ha
    refine ⟨x, ?_, g2⟩
    have hl := hz.len
    simp only [madeCells, Array.getElem?_map, Array.getElem?_range, hj, if_true, Option.map_some]
    rw [hl] at g1
    simp [g1]
  unfold repCont at h
  split at h
  · rename_i a
    split at h <;> try cases h
    rename_i c hc
    refine ⟨fun r c' a' ha => ?_, fun _ => rfl, rfl⟩
    cases c' <;> simp only [Cont.at] at ha <;> try cases ha
    obtain ⟨rfl, hr⟩ := Col.rep_at hc (Option.some.inj ha)
    obtain ⟨x, g1, g2⟩ := hat r (by simpa using hr) a' (by simp [Nat.mod_one])
    exact ⟨by simp [Cont.width], x, by simpa [Cont.width] using g1, g2⟩
  · rename_i hne
    split at h <;> try cases h
    rename_i cs hcs
    obtain ⟨g1, g2⟩ := reps_at hcs
    refine ⟨fun r c a ha => ?_, fun h => by simpa [Cont.width, g1] using h, by simp [Cont.width, g1]⟩
    simp only [Cont.at] at ha
    split at ha
    · rename_i cl hcl
      obtain ⟨a0, e1, e2⟩ := g2 c cl hcl
      obtain ⟨rfl, hr⟩ := Col.rep_at e2 (Option.some.inj ha)
      have hc : c < z.length := (List.getElem?_eq_some_iff.1 e1).1
      have hm : r * z.length + z.length ≤ n * z.length := by
        have := Nat.mul_le_mul_right z.length (show r + 1 ≤ n from hr)
        rw [Nat.add_mul, Nat.one_mul] at this
        exact this
      obtain ⟨x, g3, g4⟩ := hat (r * z.length + c) (by omega) a (by rw [Nat.mul_comm, Nat.mul_add_mod, Nat.mod_eq_of_lt hc]; exact e1)
      exact ⟨by simp [Cont.width, g1]; exact hc, x, by simpa [Cont.width, g1] using g3, g4⟩
    · cases ha
theorem repCont_plain {z : List AV} {n : Nat} {k : Cont} (h : repCont z n = some k) : k.plain = true := by
  unfold repCont at h
  split at h
  · split at h
    · cases h; rfl
    · cases h
  · split at h
    · cases h; rfl
    · cases h
def makeA (P : Program) (m : MS) (t : TypeId) (a b : AV) : Option (AV × MS × List Bool) := match P.underlying t with
  | some (.slice e) => match P.info? e with
    | some i => match zeroA P e with
      | some za => match za.cellsOf with
        | some z => match a, b with
          | .val (.int _ l), .val (.int _ c) => match Nat.beq z.length i.size && Nat.blt 0 i.size with
            | true => match repCont z c.toNat with
              | some k => match Nat.beq (strideOf k.width i.size * k.width) i.size with
                | true => some (.sl true m.nx k.width 0 (strideOf k.width i.size) l.toNat none, ⟨(m.nx, some ⟨true, true, k⟩) :: m.bl, m.nx + 1⟩, [decide (0 ≤ l), decide (l ≤ c), decide ((i.bytes : Int) * c ≤ 281474976710656), decide (c ≤ 9223372036854775807)])
                | false => none
              | none => none
            | false => none
          | _, _ => none
        | none => none
      | none => none
    | none => none
  | _ => none
theorem makeA_ok {t : TypeId} {a b v : AV} {m' : MS} {bs : List Bool} {x y : Value} (h : makeA P m t a b = some (v, m', bs)) (hm : MRel ρ m w) (hx : AV.rel ρ m.nx a x) (hy : AV.rel ρ m.nx b y) (hbs : bs.all id = true) : MemOk P (Instr.makeSlice t x y) ρ m w v m' := by
  unfold makeA at h
  split at h <;> try cases h
  rename_i e hu
  split at h <;> try cases h
  rename_i i hi
  split at h <;> try cases h
  rename_i za hza
  split at h <;> try cases h
  rename_i z hz
  split at h <;> try cases h
  rename_i kl l kc c
  split at h <;> try cases h
  rename_i hck
  rw [Bool.and_eq_true, Nat.blt_eq] at hck
  have hzl := Nat.eq_of_beq_eq_true hck.1
  split at h <;> try cases h
  rename_i k hk
  split at h <;> try cases h
  rename_i hst
  have hst := Nat.eq_of_beq_eq_true hst
  simp at hbs
  obtain ⟨hl0, hlc, hby, h63⟩ := hbs
  simp only [AV.rel] at hx hy
  subst hx hy
  have hzv : ∃ zv, i.zero = some zv ∧ za = ofConst zv := by
    unfold zeroA at hza
    rw [hi] at hza
    dsimp only at hza
    split at hza
    · rename_i zv hzv; cases hza; exact ⟨zv, hzv, rfl⟩
    · cases hza
  obtain ⟨zv, hzv, rfl⟩ := hzv
  obtain ⟨zs, hc, hr⟩ := AV.cellsOf_ok hz (ofConst_rel (ρ := ρ) (nx := m.nx) zv)
  have hrun := run_make (P := P) w t e i zv hu hi hzv kl kc l c hl0 hlc hby h63
  obtain ⟨g1, _, _⟩ := repCont_rel hk hr (fun e => by rw [e] at hzl; simp at hzl; omega)
  rw [hc, ← hzl] at hrun
  obtain ⟨ρ', e1, e2, e3⟩ := fresh_row (w := w) (e := e) (wd := k.width) (s := strideOf k.width i.size) (n := l.toNat) (c := c.toNat) (bl' := m.bl) hm g1 (by rw [hst, size_madeCells, hzl]; exact Nat.le_refl _) (by omega) (fun _ _ h => h) (repCont_plain hk)
  exact ⟨ρ', _, _, hrun, e1, e2, e3⟩
end
end Go.Proofs.YtnkpegdmbocgaaaDoor
