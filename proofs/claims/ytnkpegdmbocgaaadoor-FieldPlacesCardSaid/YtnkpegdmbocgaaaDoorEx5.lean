/-
  Operations that leave memory alone: proofs.
-/
import Derived.Test.YtnkpegdmbocgaaaDoorEx4
namespace Go.Proofs.YtnkpegdmbocgaaaDoor
open Go Go.RowKit
section
variable {P : Program} {ρ : Rho} {m : MS} {w : World} {nx : Nat}
theorem unA_ok {op : UnOp} {a v : AV} {x : Value} (h : unA op a = some v) (hx : AV.rel ρ nx a x) : PureOk P (Op.unary op x) ρ nx w v := by
  unfold unA at h
  split at h
  all_goals first
    | (simp only [AV.rel] at hx; subst hx; cases h; exact mkPure _ (by simp [Op.unary, Op.intArith, Op.intBits]; rfl) (by simp [AV.rel]))
    | cases h
theorem convA_ok {src dst : TypeId} {a v : AV} {x : Value} (h : convA P src dst a = some v) (hx : AV.rel ρ nx a x) : PureOk P (convert src dst x) ρ nx w v := by
  unfold convA at h
  split at h
  · rename_i h1 h2
    simp only [AV.rel] at hx; subst hx; cases h
    exact mkPure _ (by simp [convert, run_underlying h1, run_underlying h2, Conv.intToInt]; rfl) (by simp [AV.rel])
  · rename_i h1 h2
    simp only [AV.rel] at hx; subst hx; cases h
    exact mkPure _ (by simp [convert, run_underlying h1, run_underlying h2]; rfl) (by simp [AV.rel])
  · cases h
theorem fieldA_ok {t : TypeId} {a v : AV} {x : Value} {f : Nat} (h : fieldA P t a f = some v) (hx : AV.rel ρ nx a x) : PureOk P (Instr.field t x f) ρ nx w v := by
  unfold fieldA at h
  split at h
  · rename_i fs cs hu
    simp only [AV.rel] at hx
    obtain ⟨xs, rfl, hxs⟩ := hx
    cases hf : fs[f]? with
    | none => rw [hf] at h; cases h
    | some fd =>
      rw [hf] at h
      obtain ⟨y, h1, h2⟩ := part_ok (w := w) h hxs
      exact mkPure y (by simp [Instr.field, run_underlying hu, hf, asAgg, h1]) h2
  · cases h
theorem indexA_ok {t : TypeId} {a i v : AV} {bs : List Bool} {x y : Value} (h : indexA P t a i = some (v, bs)) (hx : AV.rel ρ nx a x) (hy : AV.rel ρ nx i y) (hbs : bs.all id = true) : PureOk P (Instr.index t x y) ρ nx w v := by
  unfold indexA at h
  split at h
  · rename_i s k n hu
    simp only [AV.rel] at hx hy
    subst hx hy
    cases h
    simp at hbs
    obtain ⟨h0, h1⟩ := hbs
    refine mkPure (.int .u8 (byteAt s n.toNat)) ?_ (by simp [AV.rel])
    have hb : s[n.toNat]? = some (s[n.toNat]'h1) := getElem?_pos s n.toNat h1
    have e : byteAt s n.toNat = ((s[n.toNat]'h1).toNat : Int) := by
      unfold byteAt
      have : s.data.toList.getD n.toNat 0 = s[n.toNat]'h1 := by
        rw [List.getD_eq_getElem?_getD]
        have h2 : n.toNat < s.data.toList.length := by simpa using h1
        rw [List.getElem?_eq_getElem h2]
        rfl
      rw [this]
    simp only [Instr.index, asIntOf, Sem.run_bind, Sem.run_pure, Result.andThen_ok, run_underlying hu, h0, if_true, hb, e]
  · rename_i len e cs k n hu
    simp only [AV.rel] at hx hy
    subst hy
    obtain ⟨xs, rfl, hxs⟩ := hx
    cases hb : Nat.blt n len with
    | false => rw [hb] at h; cases h
    | true =>
      rw [hb] at h
      dsimp only at h
      cases hi : P.info? e with
      | none => rw [hi] at h; cases h
      | some f =>
        rw [hi] at h
        dsimp only at h
        cases hp : partA P e cs (n * f.size) with
        | none => rw [hp] at h; cases h
        | some v' =>
          rw [hp] at h
          cases h
          obtain ⟨y, h1, h2⟩ := part_ok (w := w) hp hxs
          have hlt : n < len := by simpa [Nat.blt_eq] using hb
          refine mkPure y ?_ h2
          simp [Instr.index, asIntOf, run_underlying hu, hlt, run_sizeOf hi, h1]
  · cases h
theorem bump_ok {w r c j : Nat} {r' c' : Nat} (h : bump w r c j = (r', c')) : r' * w + c' = r * w + c + j := by
  unfold bump at h
  split at h
  · rename_i hb
    cases h
    rw [Nat.eq_of_beq_eq_true hb]; omega
  · cases h; omega
theorem fieldAddrA_ok {t : TypeId} {a v : AV} {x : Value} {f : Nat} (h : fieldAddrA P t a f = some v) (hx : AV.rel ρ nx a x) : PureOk P (Instr.fieldAt t x f) ρ nx w v := by
  unfold fieldAddrA at h
  split at h
  · rename_i fs l wd r c hu
    simp only [AV.rel] at hx
    obtain ⟨hl, rfl⟩ := hx
    cases hf : fs[f]? with
    | none => rw [hf] at h; cases h
    | some fd =>
      rw [hf] at h
      dsimp only at h
      cases hi : P.info? fd.type with
      | none => rw [hi] at h; cases h
      | some i =>
        rw [hi] at h
        dsimp only at h
        cases hb : Nat.beq i.size 0 with
        | true => rw [hb] at h; cases h
        | false =>
          rw [hb] at h
          dsimp only at h
          cases hbm : bump wd r c fd.offset with
          | mk r' c' =>
            rw [hbm] at h
            cases h
            have hne : ¬ i.size = 0 := fun e => by rw [e] at hb; cases hb
            refine mkPure (.pointer (some ⟨(ρ l).b, (ρ l).o + (r' * wd + c'), none⟩)) ?_ (by simp only [AV.rel]; exact ⟨hl, trivial⟩)
            rw [bump_ok hbm]
            simp [Instr.fieldAt, run_underlying hu, hf, Instr.sureAddr, fieldPlace, run_sizeOf hi, hne, add_none, Nat.add_assoc]
  · cases h
theorem mulN_eq (n s : Nat) : mulN n s = n * s := by
  unfold mulN
  split
  · rename_i h; rw [Nat.eq_of_beq_eq_true h]; omega
  · rfl
theorem indexAddrA_ok {t : TypeId} {a i v : AV} {bs : List Bool} {x y : Value} (h : indexAddrA P t a i = some (v, bs)) (hx : AV.rel ρ nx a x) (hy : AV.rel ρ nx i y) (hbs : bs.all id = true) : PureOk P (Instr.indexAt t x y) ρ nx w v := by
  unfold indexAddrA at h
  split at h
  · rename_i e nn l wd r s n cap k kk hu
    simp only [AV.rel] at hx hy
    obtain ⟨hl, A, c, rfl, hnc, hA, _, _⟩ := hx
    subst hy
    cases hi : P.info? e with
    | none => rw [hi] at h; cases h
    | some f =>
      rw [hi] at h
      dsimp only at h
      cases hb : Nat.beq f.size (s * wd) with
      | false => rw [hb] at h; cases h
      | true =>
        rw [hb] at h
        cases h
        simp at hbs
        obtain ⟨h0, h1⟩ := hbs
        have hsz := Nat.eq_of_beq_eq_true hb
        rw [hA (by omega)]
        refine mkPure (.pointer (some ⟨(ρ l).b, (ρ l).o + (addN r (mulN kk.toNat s) * wd + 0), none⟩)) ?_ (by simp only [AV.rel]; exact ⟨hl, trivial⟩)
        have c1 : 0 ≤ kk ∧ kk < (n : Int) := ⟨h0, by omega⟩
        rw [mulN_eq, addN_eq]
        simp only [Instr.indexAt, asIntOf, Sem.run_bind, Sem.run_pure, Result.andThen_ok, run_underlying hu, if_pos c1, run_sizeOf hi, add_none, hsz]
        simp [Nat.add_mul, Nat.mul_assoc, Nat.add_assoc]
  · rename_i len e l wd r c k kk hu
    simp only [AV.rel] at hx hy
    obtain ⟨hl, rfl⟩ := hx
    subst hy
    cases hi : P.info? e with
    | none => rw [hi] at h; cases h
    | some f =>
      rw [hi] at h
      dsimp only at h
      have key : ∀ r' c', (0 ≤ kk ∧ kk.toNat < len) → r' * wd + c' = r * wd + c + kk.toNat * f.size → PureOk P (Instr.indexAt t (.pointer (some ⟨(ρ l).b, (ρ l).o + (r * wd + c), none⟩)) (.int k kk)) ρ nx w (.ptr l wd r' c') := fun r' c' hk he => by
        refine mkPure (.pointer (some ⟨(ρ l).b, (ρ l).o + (r' * wd + c'), none⟩)) ?_ (by simp only [AV.rel]; exact ⟨hl, trivial⟩)
        have c1 : 0 ≤ kk ∧ kk < (len : Int) := ⟨hk.1, by omega⟩
        rw [he]
        simp only [Instr.indexAt, asIntOf, Sem.run_bind, Sem.run_pure, Result.andThen_ok, run_underlying hu, Instr.sureAddr, if_pos c1, run_sizeOf hi, add_none]
        simp [Nat.add_assoc]
      cases hb : Nat.beq wd 1 with
      | true =>
        rw [hb] at h
        cases h
        simp at hbs
        have := Nat.eq_of_beq_eq_true hb
        subst this
        exact key _ _ hbs (by rw [mulN_eq, addN_eq]; omega)
      | false =>
        rw [hb] at h
        dsimp only at h
        cases hb2 : Nat.beq wd f.size with
        | true =>
          rw [hb2] at h
          cases h
          simp at hbs
          have := Nat.eq_of_beq_eq_true hb2
          exact key _ _ hbs (by rw [addN_eq, ← this, Nat.add_mul]; omega)
        | false =>
          rw [hb2] at h
          cases h
          simp at hbs
          exact key _ _ hbs (by rw [mulN_eq, addN_eq]; omega)
  · rename_i len e g o k kk hu
    simp only [AV.rel] at hx hy
    subst hx hy
    cases hi : P.info? e with
    | none => rw [hi] at h; cases h
    | some f =>
      rw [hi] at h
      cases h
      simp at hbs
      refine mkPure (.pointer (some ⟨g, addN o (mulN kk.toNat f.size), none⟩)) ?_ (by simp only [AV.rel])
      have c1 : 0 ≤ kk ∧ kk < (len : Int) := ⟨hbs.1, by omega⟩
      rw [addN_eq, mulN_eq]
      simp only [Instr.indexAt, asIntOf, Sem.run_bind, Sem.run_pure, Result.andThen_ok, run_underlying hu, Instr.sureAddr, if_pos c1, run_sizeOf hi, add_none]
  · cases h
theorem loadN_ok {k : Cont} {cell : Nat → Option Value} (hk : k.rel ρ nx cell) (r c : Nat) : ∀ (n j : Nat) (as : List AV) (bs : List Bool), loadN k k.width r c n j = some (as, bs) → bs.all id = true →
    ∃ xs : List Value, AV.rels ρ nx as xs ∧ xs.length = n ∧ ∀ i x, xs[i]? = some x → cell (r * k.width + c + (j + i)) = some x
  | 0, j, as, bs, h, _ => by
    simp only [loadN] at h
    cases h
    exact ⟨[], by simp [AV.rels], rfl, by simp⟩
  | n + 1, j, as, bs, h, hbs => by
    simp only [loadN] at h
    cases hb : bump k.width r c j with
    | mk r' c' =>
      rw [hb] at h
      dsimp only at h
      cases ha : k.at r' c' with
      | none => rw [ha] at h; cases h
      | some p =>
        obtain ⟨a, b⟩ := p
        rw [ha] at h
        dsimp only at h
        cases hr : loadN k k.width r c n (j + 1) with
        | none => rw [hr] at h; cases h
        | some q =>
          obtain ⟨as', bs'⟩ := q
          rw [hr] at h
          dsimp only at h
          have hfin : b = true ∧ as = a :: as' ∧ bs'.all id = true := by
            cases k with
            | cells l =>
              cases h
              refine ⟨?_, rfl, hbs⟩
              cases c' <;> simp only [Cont.at] at ha
              · split at ha
                · cases ha; rfl
                · cases ha
              · cases ha
            | col cl => cases h; exact ⟨(all_cons hbs).1, rfl, (all_cons hbs).2⟩
            | rows cs => cases h; exact ⟨(all_cons hbs).1, rfl, (all_cons hbs).2⟩
            | obj q => cases h; exact ⟨(all_cons hbs).1, rfl, (all_cons hbs).2⟩
          obtain ⟨rfl, rfl, hbs'⟩ := hfin
          obtain ⟨xs, h1, h2, h3⟩ := loadN_ok hk r c n (j + 1) as' bs' hr hbs'
          obtain ⟨_, x, hx1, hx2⟩ := hk r' c' a ha
          rw [bump_ok hb] at hx1
          refine ⟨x :: xs, by simp only [AV.rels]; exact ⟨x, xs, rfl, hx2, h1⟩, by simp [h2], fun i y hy => ?_⟩
          cases i with
          | zero => simp at hy; subst hy; simpa using hx1
          | succ i =>
            simp at hy
            have := h3 i y hy
            rwa [show j + 1 + i = j + (i + 1) by omega] at this
theorem loadA_ok {t : TypeId} {a v : AV} {bs : List Bool} {x : Value} (hm : MRel ρ m w) (h : loadA P t m a = some (v, bs)) (hx : AV.rel ρ m.nx a x) (hbs : bs.all id = true) : PureOk P (Instr.loadAt t x) ρ m.nx w v := by
  unfold loadA at h
  split at h
  · rename_i g o
    simp only [AV.rel] at hx
    subst hx
    split at h <;> try cases h
    rename_i l c0 _
    split at h <;> try cases h
    rename_i wr op g' c hl
    split at h <;> try cases h
    rename_i hgg
    have hgg := Nat.eq_of_beq_eq_true hgg
    subst hgg
    cases hag : aggT P t with
    | none => rw [hag] at h; cases h
    | some ag =>
    rw [hag] at h
    cases ag with
    | true => cases h
    | false =>
    dsimp only at h
    cases hco : c.at o with
    | mk a b =>
    rw [hco] at h
    cases h
    obtain ⟨hib, _, cs, ty, fz, hc, hat⟩ := (hm.blk l _ hl).2.obj _ rfl
    have hb : b = true := by simpa using hbs
    subst hb
    have hcv : ∃ u, a = .val u := by
      cases c <;> simp only [Col.at, Prod.mk.injEq] at hco <;> exact ⟨_, hco.1.symm⟩
    obtain ⟨u, rfl⟩ := hcv
    have hu := hco
    refine mkPure u ?_ (by simp only [AV.rel])
    have := hat o u hu
    simp [Instr.loadAt, Instr.sureAddr, loadVar, run_isAgg hag, World.cell?, hc, this]
  · rename_i l wd r c
    simp only [AV.rel] at hx
    obtain ⟨hl, rfl⟩ := hx
    cases hlk : look m.bl l with
    | none => rw [hlk] at h; cases h
    | some b =>
      rw [hlk] at h
      dsimp only at h
      have hok := (hm.blk l b hlk).2
      cases hwd : Nat.beq b.cont.width wd with
      | false => rw [hwd] at h; cases h
      | true =>
        rw [hwd] at h
        dsimp only at h
        have := Nat.eq_of_beq_eq_true hwd
        subst this
        cases hag : aggT P t with
        | none => rw [hag] at h; cases h
        | some g =>
          rw [hag] at h
          cases g with
          | true =>
            dsimp only at h
            cases hi : P.info? t with
            | none => rw [hi] at h; cases h
            | some i =>
              rw [hi] at h
              dsimp only at h
              cases hn : loadN b.cont b.cont.width r c i.size 0 with
              | none => rw [hn] at h; cases h
              | some q =>
                obtain ⟨as, bs'⟩ := q
                rw [hn] at h
                cases h
                obtain ⟨xs, h1, h2, h3⟩ := loadN_ok hok.rel r c _ _ _ _ hn hbs
                refine mkPure (.agg xs.toArray) ?_ (by simp only [AV.rel]; exact ⟨xs, rfl, h1⟩)
                have := run_loadCells_list (P := P) w ⟨(ρ l).b, (ρ l).o + (r * b.cont.width + c), none⟩ xs (fun j v hv => by
                  rw [add_none]
                  have := h3 j v hv
                  simpa [Nat.add_assoc] using this)
                rw [h2] at this
                simp [Instr.loadAt, Instr.sureAddr, loadVar, run_isAgg hag, run_sizeOf hi, this]
          | false =>
            dsimp only at h
            cases hn : loadN b.cont b.cont.width r c 1 0 with
            | none => rw [hn] at h; cases h
            | some q =>
              obtain ⟨as, bs'⟩ := q
              rw [hn] at h
              cases as with
              | nil => cases h
              | cons a' as' =>
                cases h
                obtain ⟨xs, h1, h2, h3⟩ := loadN_ok hok.rel r c _ _ _ _ hn hbs
                simp only [AV.rels] at h1
                obtain ⟨y, ys, rfl, g1, g2⟩ := h1
                refine mkPure y ?_ g1
                have := h3 0 y rfl
                simp only [Nat.add_zero] at this
                simp [Instr.loadAt, Instr.sureAddr, loadVar, run_isAgg hag, this]
  · cases h
theorem bound_ok {o : Option AV} {d : Nat} {q : Int} {o' : Option Value} (h : bound o d = some q) (ho : optRel ρ nx o o') : (o' = none ∧ q = d) ∨ ∃ k, o' = some (.int k q) := by
  unfold bound at h
  split at h
  · cases h; exact .inl ⟨ho, rfl⟩
  · cases h
    obtain ⟨x, rfl, hx⟩ := ho
    simp only [AV.rel] at hx
    subst hx
    exact .inr ⟨_, rfl⟩
  · cases h
theorem sliceBounds_ok {b : Bool} {n c : Nat} {lo hi : Option AV} {lo' hi' : Option Value} {l q : Int} (hl : bound lo 0 = some l) (hh : bound hi n = some q) (hlo : optRel ρ nx lo lo') (hhi : optRel ρ nx hi hi')
    (b0 : 0 ≤ l) (b1 : l ≤ q) (b2 : q ≤ n) (hnc : n ≤ c) (w : World) : (Instr.sliceBounds b n c lo' hi' none).run P w = .ok (l.toNat, q.toNat, c) w := by
  have c1 : 0 ≤ q ∧ q ≤ (c : Int) := ⟨by omega, by omega⟩
  have c2 : 0 ≤ l ∧ l ≤ (q.toNat : Int) := ⟨b0, by omega⟩
  have c3 : (q.toNat : Int) = q := Int.toNat_of_nonneg (by omega)
  unfold Instr.sliceBounds
  rcases bound_ok hh hhi with ⟨rfl, e1⟩ | ⟨k, rfl⟩ <;> rcases bound_ok hl hlo with ⟨rfl, e2⟩ | ⟨k', rfl⟩
  · subst e1 e2; simp
  · subst e1; simp [Instr.sliceBound, asIntOf, b0, b1]
  · subst e2; simp [Instr.sliceBound, asIntOf, c1.1, c1.2]
  · simp [Instr.sliceBound, asIntOf, c1.1, c1.2, c2.1, c2.2, c3, b1]
theorem sliceA_ok {t : TypeId} {a v : AV} {lo hi : Option AV} {lo' hi' : Option Value} {bs : List Bool} {x : Value} (h : sliceA P t a lo hi = some (v, bs)) (hx : AV.rel ρ nx a x)
    (hlo : optRel ρ nx lo lo') (hhi : optRel ρ nx hi hi') (hbs : bs.all id = true) :
    PureOk P (Instr.sliceAt t x lo' hi' none) ρ nx w v := by
  unfold sliceA at h
  split at h
  · rename_i s hu
    cases hl : bound lo 0 with
    | none => rw [hl] at h; cases h
    | some l =>
      cases hh : bound hi s.size with
      | none => rw [hl, hh] at h; cases h
      | some q =>
        rw [hl, hh] at h
        cases h
        simp only [AV.rel] at hx
        subst hx
        simp at hbs
        obtain ⟨b0, b1, b2⟩ := hbs
        refine mkPure (.string (s.extract l.toNat q.toNat)) ?_ (by simp [AV.rel])
        have := sliceBounds_ok (P := P) (b := false) hl hh hlo hhi b0 b1 b2 (Nat.le_refl _) w
        simp [Instr.sliceAt, run_underlying hu, Instr.slice, this]
  · rename_i e nn l wd r s n cap hu
    cases hi2 : P.info? e with
    | none => rw [hi2] at h; cases h
    | some f =>
      rw [hi2] at h
      dsimp only at h
      cases hb : Nat.beq f.size (s * wd) with
      | false => rw [hb] at h; cases h
      | true =>
        rw [hb] at h
        dsimp only at h
        have hsz := Nat.eq_of_beq_eq_true hb
        cases hl : bound lo 0 with
        | none => rw [hl] at h; cases h
        | some b =>
          cases hh : bound hi n with
          | none => rw [hl, hh] at h; cases h
          | some q =>
            rw [hl, hh] at h
            cases h
            simp only [AV.rel] at hx
            obtain ⟨hlt, A, c, rfl, hnc, hA, hnn, hcap⟩ := hx
            simp at hbs
            obtain ⟨b0, b1, b2⟩ := hbs
            have := sliceBounds_ok (P := P) (b := true) hl hh hlo hhi b0 b1 b2 hnc w
            refine mkPure (.slice (if c = b.toNat then A else A.map (·.add (b.toNat * f.size))) (q.toNat - b.toNat) (c - b.toNat)) (by simp [Instr.sliceAt, run_underlying hu, Instr.slice, this, run_sizeOf hi2]) ?_
            simp only [AV.rel]
            refine ⟨hlt, _, c - b.toNat, rfl, by omega, fun hc => ?_, fun hn => ?_, ?_⟩
            · rw [if_neg (by omega), hA (by omega), Option.map_some, add_none, hsz, mulN_eq, addN_eq]
              simp [Nat.add_mul, Nat.mul_assoc, Nat.add_assoc]
            · have := hnn hn
              split
              · exact this
              · simpa using this
            · cases cap with
              | some c' => dsimp only at hcap ⊢; rw [hcap]
              | none =>
                dsimp only at hcap ⊢
                rw [mulN_eq, addN_eq, Nat.add_mul, Nat.mul_assoc]
                have e1 : c * (s * wd) = b.toNat * (s * wd) + (c - b.toNat) * (s * wd) := by rw [← Nat.add_mul]; congr 1; omega
                omega
  · rename_i e hu
    cases hi2 : P.info? e with
    | none => rw [hi2] at h; cases h
    | some f =>
     rw [hi2] at h
     dsimp only at h
     cases hl : bound lo 0 with
     | none => rw [hl] at h; cases h
     | some b =>
      cases hh : bound hi 0 with
      | none => rw [hl, hh] at h; cases h
      | some q =>
        rw [hl, hh] at h
        cases h
        simp only [AV.rel] at hx
        subst hx
        simp at hbs
        obtain ⟨rfl, rfl⟩ := hbs
        have := sliceBounds_ok (P := P) (b := true) (c := 0) hl hh hlo hhi (by omega) (by omega) (by omega) (Nat.le_refl _) w
        exact mkPure (.slice none 0 0) (by simp at this; simp [Instr.sliceAt, run_underlying hu, Instr.slice, this, run_sizeOf hi2]) (by simp [AV.rel])
  · rename_i n e l wd r c hu
    cases hi2 : P.info? e with
    | none => rw [hi2] at h; cases h
    | some f =>
      rw [hi2] at h
      dsimp only at h
      cases hc0 : Nat.beq c 0 with
      | false => rw [hc0] at h; cases h
      | true =>
        rw [hc0] at h
        dsimp only at h
        have := Nat.eq_of_beq_eq_true hc0
        subst this
        split at h
        · rename_i s hs
          have hsz : f.size = s * wd := by
            split at hs
            · rename_i h1
              cases hs
              rw [Nat.eq_of_beq_eq_true h1]; omega
            · split at hs
              · rename_i h1
                cases hs
                rw [Nat.eq_of_beq_eq_true h1]; omega
              · cases hs
          cases hl : bound lo 0 with
          | none => rw [hl] at h; cases h
          | some b =>
            cases hh : bound hi n with
            | none => rw [hl, hh] at h; cases h
            | some q =>
              rw [hl, hh] at h
              cases h
              simp only [AV.rel] at hx
              obtain ⟨hlt, rfl⟩ := hx
              simp at hbs
              obtain ⟨b0, b1, b2⟩ := hbs
              have := sliceBounds_ok (P := P) (b := false) hl hh hlo hhi b0 b1 b2 (Nat.le_refl _) w
              refine mkPure (.slice (some (if n = b.toNat then ⟨(ρ l).b, (ρ l).o + (r * wd + 0), none⟩ else (⟨(ρ l).b, (ρ l).o + (r * wd + 0), none⟩ : Addr).add (b.toNat * f.size))) (q.toNat - b.toNat) (n - b.toNat)) (by simp [Instr.sliceAt, run_underlying hu, Instr.sureAddr, this, run_sizeOf hi2]) ?_
              simp only [AV.rel]
              refine ⟨hlt, _, n - b.toNat, rfl, by omega, fun hc => ?_, fun _ => rfl, rfl⟩
              rw [if_neg (by omega), add_none, hsz, mulN_eq, addN_eq]
              simp [Nat.add_mul, Nat.mul_assoc, Nat.add_assoc]
        · cases h
  · cases h
end
end Go.Proofs.YtnkpegdmbocgaaaDoor
