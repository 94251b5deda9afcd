/-
  A test whose branches only set variables: both at once, each variable by the test.
-/
import Derived.Test.YtnkpegdmbocgaaaDoorEx8
namespace Go.Proofs.YtnkpegdmbocgaaaDoor
open Go Go.RowKit
def nilSl : Value → Bool
  | .slice none 0 0 => true
  | _ => false
def mergeV (t : Bool) (u v : Value) : AV := match u, v with
  | .int k x, .int k' y => match decide (k = k') with
    | true => .val (.int k (bif t then x else y))
    | false => .unk
  | .bool x, .bool y => .val (.bool (bif t then x else y))
  | .string x, .string y => .val (.string (bif t then x else y))
  | .pointer none, .pointer none => .val (.pointer none)
  | .slice none 0 0, .slice none 0 0 => .val (.slice none 0 0)
  | _, _ => .unk
mutual
def mergeAV (t : Bool) : AV → AV → AV
  | .val u, b => match b with
    | .val v => mergeV t u v
    | _ => .unk
  | .agg xs, b => match b with
    | .agg ys => match Nat.beq xs.length ys.length with
      | true => .agg (mergeAVs t xs ys)
      | false => .unk
    | _ => .unk
  | .tup xs, b => match b with
    | .tup ys => match Nat.beq xs.length ys.length with
      | true => .tup (mergeAVs t xs ys)
      | false => .unk
    | _ => .unk
  | .unk, _ => .unk
  | .ptr .., _ => .unk
  | .sl .., _ => .unk
  | .gd .., _ => .unk
  | .clo .., _ => .unk
  | .yld .., _ => .unk
def mergeAVs (t : Bool) : List AV → List AV → List AV
  | [], _ => []
  | x :: xs, l => match l with
    | [] => []
    | y :: ys => mergeAV t x y :: mergeAVs t xs ys
end
def clean1 (a : AV) : AV := match isGd a with
  | true => .unk
  | false => a
def mergeT (ds : List Nat) (t : Bool) : Nat → List AV → List AV → List AV → List AV
  | i, a :: r, a1 :: r1, a2 :: r2 => (match ds.any (Nat.beq i) with
    | true => mergeAV t a1 a2
    | false => clean1 a) :: mergeT ds t (i + 1) r r1 r2
  | _, _, _, _ => []
def seqRunP (P : Program) (E : Env) (ops : Array Oper) : List Oper → List AV → MS → Option (List AV × List Bool)
  | [], tm, _ => some (tm, [])
  | o :: r, tm, m => match stepA P E ops o tm m with
    | some (v, none, bs) => match seqRunP P E ops r (putA tm o.dst v) m with
      | some (tm', bs') => some (tm', bs ++ bs')
      | none => none
    | _ => none
def dstsOf : List Oper → List Nat
  | [] => []
  | o :: r => match o.dst with
    | some d => d :: dstsOf r
    | none => dstsOf r
def dstsC : Code → List Nat
  | .region _ ops _ => dstsOf ops.toList
  | .seq a b => dstsC a ++ dstsC b
  | .cond _ x y => dstsC x ++ dstsC y
  | .scope b => dstsC b
  | .block _ b => dstsC b
  | _ => []
def segA (P : Program) (E : Env) : Nat → Code → List AV → MS → Option (List AV × List Bool)
  | 0, _, _, _ => none
  | n + 1, c, tm, m => match c with
    | .skip => some (tm, [])
    | .label _ => some (tm, [])
    | .seq a b => match segA P E n a tm m with
      | some (t1, b1) => match segA P E n b t1 m with
        | some (t2, b2) => some (t2, b1 ++ b2)
        | none => none
      | none => none
    | .region _ ops draw => match draw with
      | false => match guardsOk ops.toList with
        | true => seqRunP P E ops ops.toList (cleanA tm) m
        | false => none
      | true => none
    | .scope b => segA P E n b tm m
    | .block _ b => segA P E n b tm m
    | .cond c x y => match evA tm c with
      | .val (.bool t) => match segA P E n x tm m, segA P E n y tm m with
        | some (t1, b1), some (t2, b2) => some (mergeT (dstsC x ++ dstsC y) t 0 tm t1 t2, imps t b1 ++ imps (!t) b2)
        | _, _ => none
      | _ => none
    | _ => none
section
variable {P : Program} {E : Env} {ρ : Rho} {nx : Nat}
theorem mergeV_ok {t : Bool} {u v x : Value} (h : x = bif t then u else v) : AV.rel ρ nx (mergeV t u v) x := by
  unfold mergeV
  split
  · split
    · rename_i hk
      have hk := of_decide_eq_true hk
      subst hk
      cases t <;> simpa [AV.rel] using h
    · simp only [AV.rel]
  · cases t <;> simpa [AV.rel] using h
  · cases t <;> simpa [AV.rel] using h
  · cases t <;> simpa [AV.rel] using h
  · cases t <;> simpa [AV.rel] using h
  · simp only [AV.rel]
mutual
theorem mergeAV_ok {t : Bool} : ∀ (a b : AV) (x : Value), AV.rel ρ nx (bif t then a else b) x → AV.rel ρ nx (mergeAV t a b) x
  | .val u, b, x, h => by
    simp only [mergeAV]
    split
    · rename_i v
      refine mergeV_ok ?_
      cases t <;> simpa [AV.rel] using h
    · simp only [AV.rel]
  | .agg xs, b, x, h => by
    simp only [mergeAV]
    split
    · rename_i ys
      split
      · rename_i hl
        have hl := Nat.eq_of_beq_eq_true hl
        have h' : AV.rel ρ nx (.agg (bif t then xs else ys)) x := by cases t <;> simpa using h
        simp only [AV.rel] at h' ⊢
        obtain ⟨zs, e, h1⟩ := h'
        exact ⟨zs, e, mergeAVs_ok xs ys zs hl h1⟩
      · simp only [AV.rel]
    · simp only [AV.rel]
  | .tup xs, b, x, h => by
    simp only [mergeAV]
    split
    · rename_i ys
      split
      · rename_i hl
        have hl := Nat.eq_of_beq_eq_true hl
        have h' : AV.rel ρ nx (.tup (bif t then xs else ys)) x := by cases t <;> simpa using h
        simp only [AV.rel] at h' ⊢
        obtain ⟨zs, e, h1⟩ := h'
        exact ⟨zs, e, mergeAVs_ok xs ys zs hl h1⟩
      · simp only [AV.rel]
    · simp only [AV.rel]
  | .unk, _, _, _ => by simp only [mergeAV, AV.rel]
  | .ptr .., _, _, _ => by simp only [mergeAV, AV.rel]
  | .sl .., _, _, _ => by simp only [mergeAV, AV.rel]
  | .gd .., _, _, _ => by simp only [mergeAV, AV.rel]
  | .clo .., _, _, _ => by simp only [mergeAV, AV.rel]
  | .yld .., _, _, _ => by simp only [mergeAV, AV.rel]
theorem mergeAVs_ok {t : Bool} : ∀ (xs ys : List AV) (zs : List Value), xs.length = ys.length → AV.rels ρ nx (bif t then xs else ys) zs → AV.rels ρ nx (mergeAVs t xs ys) zs
  | [], [], zs, _, h => by cases t <;> simpa [mergeAVs] using h
  | x :: xs, y :: ys, zs, hl, h => by
    have e : (bif t then x :: xs else y :: ys) = (bif t then x else y) :: (bif t then xs else ys) := by cases t <;> rfl
    rw [e] at h
    simp only [AV.rels, mergeAVs] at h ⊢
    obtain ⟨z, zs', e', h1, h2⟩ := h
    exact ⟨z, zs', e', mergeAV_ok x y z h1, mergeAVs_ok xs ys zs' (by simpa using hl) h2⟩
  | [], y :: ys, zs, hl, _ => by simp at hl
  | x :: xs, [], zs, hl, _ => by simp at hl
end
theorem clean1_ok {a : AV} {x : Value} (h : AV.rel ρ nx a x) : AV.rel ρ nx (clean1 a) x := by
  unfold clean1
  split
  · simp only [AV.rel]
  · exact h
theorem clean1_idem (a : AV) : clean1 (clean1 a) = clean1 a := by
  unfold clean1
  cases h : isGd a with
  | true => rfl
  | false => simp only [h]
/-- What was not set stays. -/
structure Keeps (ds : List Nat) (tm tm' : List AV) : Prop where
  len : tm'.length = tm.length
  at_ : ∀ i a, i ∉ ds → tm[i]? = some a → tm'[i]? = some a ∨ tm'[i]? = some (clean1 a)
theorem Keeps.refl (ds : List Nat) (tm : List AV) : Keeps ds tm tm := ⟨rfl, fun _ _ _ h => .inl h⟩
theorem Keeps.trans {ds ds' : List Nat} {t1 t2 t3 : List AV} (h : Keeps ds t1 t2) (h' : Keeps ds' t2 t3) : Keeps (ds ++ ds') t1 t3 where
  len := h'.len.trans h.len
  at_ i a hi ha := by
    simp only [List.mem_append, not_or] at hi
    rcases h.at_ i a hi.1 ha with h1 | h1
    · exact h'.at_ i a hi.2 h1
    · rcases h'.at_ i _ hi.2 h1 with h2 | h2
      · exact .inr h2
      · rw [clean1_idem] at h2; exact .inr h2
theorem cleanA_keeps : ∀ tm : List AV, Keeps [] tm (cleanA tm)
  | [] => ⟨rfl, fun i a _ h => by simp at h⟩
  | b :: r => by
    have ih := cleanA_keeps r
    refine ⟨by simp only [cleanA, List.length_cons, ih.len], fun i a _ h => ?_⟩
    cases i with
    | zero =>
      simp at h
      subst h
      exact .inr rfl
    | succ i =>
      have := ih.at_ i a (by simp) (by simpa using h)
      simpa [cleanA] using this
theorem mem_any {i : Nat} : ∀ {ds : List Nat}, ds.any (Nat.beq i) = false → i ∉ ds
  | [], _ => by simp
  | d :: ds, h => by
    simp only [List.any_cons, Bool.or_eq_false_iff] at h
    intro hm
    rcases List.mem_cons.1 hm with rfl | hm
    · simp at h
    · exact mem_any h.2 hm
theorem mergeT_ok {ds : List Nat} {t : Bool} : ∀ (i : Nat) (tm t1 t2 : List AV) (xs : List Value), t1.length = tm.length → t2.length = tm.length → AV.rels ρ nx (bif t then t1 else t2) xs →
    (∀ j a, i + j ∉ ds → tm[j]? = some a → (bif t then t1 else t2)[j]? = some a ∨ (bif t then t1 else t2)[j]? = some (clean1 a)) → AV.rels ρ nx (mergeT ds t i tm t1 t2) xs
  | i, [], [], [], xs, _, _, h, _ => by cases t <;> simpa [mergeT] using h
  | i, a :: tm, a1 :: t1, a2 :: t2, xs, h1, h2, h, hk => by
    have e : (bif t then a1 :: t1 else a2 :: t2) = (bif t then a1 else a2) :: (bif t then t1 else t2) := by cases t <;> rfl
    rw [e] at h
    simp only [AV.rels] at h
    obtain ⟨y, ys, rfl, g1, g2⟩ := h
    simp only [mergeT, AV.rels]
    refine ⟨y, ys, rfl, ?_, mergeT_ok (i + 1) tm t1 t2 ys (by simpa using h1) (by simpa using h2) g2 fun j b hj hb => ?_⟩
    · split
      · exact mergeAV_ok a1 a2 y g1
      · rename_i hd
        have := hk 0 a (by simpa using mem_any hd) rfl
        rw [e] at this
        simp at this
        rcases this with h3 | h3
        · rw [h3] at g1; exact clean1_ok g1
        · rw [h3] at g1; exact g1
    · have := hk (j + 1) b (by rw [show i + (j + 1) = i + 1 + j by omega]; exact hj) (by simpa using hb)
      rw [e] at this
      simpa using this
  | i, [], _ :: _, _, xs, h1, _, _, _ => by simp at h1
  | i, [], [], _ :: _, xs, _, h2, _, _ => by simp at h2
  | i, _ :: _, [], _, xs, h1, _, _, _ => by simp at h1
  | i, _ :: _, _ :: _, [], xs, _, h2, _, _ => by simp at h2
theorem mergeT_keeps {ds : List Nat} {t : Bool} : ∀ (i : Nat) (tm t1 t2 : List AV), t1.length = tm.length → t2.length = tm.length → (mergeT ds t i tm t1 t2).length = tm.length ∧ ∀ j a, i + j ∉ ds → tm[j]? = some a → (mergeT ds t i tm t1 t2)[j]? = some (clean1 a)
  | i, [], [], [], _, _ => ⟨rfl, fun j a _ h => by simp at h⟩
  | i, a :: tm, a1 :: t1, a2 :: t2, h1, h2 => by
    obtain ⟨g1, g2⟩ := mergeT_keeps (ds := ds) (t := t) (i + 1) tm t1 t2 (by simpa using h1) (by simpa using h2)
    refine ⟨by simp only [mergeT, List.length_cons, g1], fun j b hj hb => ?_⟩
    cases j with
    | zero =>
      simp at hb
      subst hb
      simp only [mergeT, List.getElem?_cons_zero]
      split
      · rename_i hd
        exfalso
        have : ∃ d ∈ ds, Nat.beq i d = true := List.any_eq_true.1 hd
        obtain ⟨d, hd1, hd2⟩ := this
        have := Nat.eq_of_beq_eq_true hd2
        exact hj (by rw [Nat.add_zero, this]; exact hd1)
      · rfl
    | succ j =>
      have := g2 j b (by rw [show i + 1 + j = i + (j + 1) by omega]; exact hj) (by simpa using hb)
      simpa [mergeT] using this
  | i, [], _ :: _, _, h1, _ => by simp at h1
  | i, [], [], _ :: _, _, h2 => by simp at h2
  | i, _ :: _, [], _, h1, _ => by simp at h1
  | i, _ :: _, _ :: _, [], _, h2 => by simp at h2
theorem seqRunP_eq {ops : Array Oper} : ∀ (l : List Oper) (tm : List AV) (m : MS) (tm' : List AV) (bs : List Bool), seqRunP P E ops l tm m = some (tm', bs) → seqRun P E ops l tm m = some (tm', m, bs) ∧ Keeps (dstsOf l) tm tm'
  | [], tm, m, tm', bs, h => by cases h; exact ⟨rfl, Keeps.refl _ _⟩
  | o :: r, tm, m, tm', bs, h => by
    simp only [seqRunP] at h
    cases hs : stepA P E ops o tm m with
    | none => rw [hs] at h; cases h
    | some q =>
      obtain ⟨v, mo, b1⟩ := q
      rw [hs] at h
      cases mo with
      | some _ => cases h
      | none =>
        dsimp only at h
        cases hr : seqRunP P E ops r (putA tm o.dst v) m with
        | none => rw [hr] at h; cases h
        | some p =>
          obtain ⟨t2, b2⟩ := p
          rw [hr] at h
          cases h
          obtain ⟨g1, g2⟩ := seqRunP_eq r _ _ _ _ hr
          refine ⟨?_, ?_⟩
          · simp only [seqRun, hs, orM, g1]
          · refine ⟨?_, fun i a hi ha => ?_⟩
            · rw [g2.len]; cases o.dst <;> simp [putA]
            · have hi2 : i ∉ dstsOf r ∧ o.dst ≠ some i := by
                simp only [dstsOf] at hi
                cases hd : o.dst with
                | none => rw [hd] at hi; exact ⟨hi, by simp⟩
                | some d =>
                  rw [hd] at hi
                  simp only [List.mem_cons, not_or] at hi
                  exact ⟨hi.2, fun e => hi.1 (by cases e; rfl)⟩
              refine g2.at_ i a hi2.1 ?_
              cases hd : o.dst with
              | none => exact ha
              | some d =>
                simp only [putA]
                rw [List.getElem?_set_ne (fun e => hi2.2 (by rw [hd, e]))]
                exact ha
end
end Go.Proofs.YtnkpegdmbocgaaaDoor
