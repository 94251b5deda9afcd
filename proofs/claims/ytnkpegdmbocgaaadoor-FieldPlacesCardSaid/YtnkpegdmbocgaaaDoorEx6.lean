/-
  Operations that make memory or write it: new variables, values put together, stores.
-/
import Derived.Test.YtnkpegdmbocgaaaDoorEx5
namespace Go.Proofs.YtnkpegdmbocgaaaDoor
open Go Go.RowKit

def allInts : List AV → Option (IntKind × List Int)
  | [.val (.int k z)] => some (k, [z])
  | .val (.int k z) :: r => match allInts r with
    | some (k', zs) => match decide (k = k') with
      | true => some (k, z :: zs)
      | false => none
    | none => none
  | _ => none
def allBools : List AV → Option (List Bool)
  | [] => some []
  | .val (.bool z) :: r => match allBools r with
    | some zs => some (z :: zs)
    | none => none
  | _ => none
def allStrs : List AV → Option (List ByteArray)
  | [] => some []
  | .val (.string z) :: r => match allStrs r with
    | some zs => some (z :: zs)
    | none => none
  | _ => none
def mkCont (l : List AV) : Cont := match Nat.blt 11 l.length with
  | false => .cells l
  | true => match allInts l with
    | some (k, zs) => .col (.ints k zs)
    | none => match allBools l with
      | some bs => .col (.bools bs)
      | none => match allStrs l with
        | some ss => .col (.strs ss)
        | none => .cells l
theorem allInts_eq : ∀ {l : List AV} {k : IntKind} {zs : List Int}, allInts l = some (k, zs) → l = zs.map fun z => .val (.int k z)
  | [], k, zs, h => by cases h
  | a :: l, k, zs, h => by
    unfold allInts at h
    split at h
    · rename_i h1; cases h1; cases h; rfl
    · rename_i k' z r _ h1
      cases h1
      split at h
      · rename_i k2 zs2 h2
        by_cases hk : k' = k2
        · subst hk
          simp at h
          obtain ⟨rfl, rfl⟩ := h
          rw [allInts_eq h2]; rfl
        · simp [hk] at h
      · cases h
    · cases h
theorem allBools_eq : ∀ {l : List AV} {zs : List Bool}, allBools l = some zs → l = zs.map fun z => .val (.bool z)
  | [], zs, h => by cases h; rfl
  | a :: l, zs, h => by
    unfold allBools at h
    split at h
    · rename_i h1; cases h1
    · rename_i z r h1
      cases h1
      split at h
      · rename_i zs2 h2
        cases h
        rw [allBools_eq h2]; rfl
      · cases h
    · cases h
theorem allStrs_eq : ∀ {l : List AV} {zs : List ByteArray}, allStrs l = some zs → l = zs.map fun z => .val (.string z)
  | [], zs, h => by cases h; rfl
  | a :: l, zs, h => by
    unfold allStrs at h
    split at h
    · rename_i h1; cases h1
    · rename_i z r h1
      cases h1
      split at h
      · rename_i zs2 h2
        cases h
        rw [allStrs_eq h2]; rfl
      · cases h
    · cases h
theorem mkCont_plain (l : List AV) : (mkCont l).plain = true := by
  unfold mkCont
  split
  · rfl
  · split
    · rfl
    · split
      · rfl
      · split <;> rfl
theorem mkCont_width (l : List AV) : (mkCont l).width = 1 := by
  unfold mkCont
  split
  · rfl
  · split
    · rfl
    · split
      · rfl
      · split <;> rfl
section
variable {P : Program} {ρ : Rho} {m : MS} {w : World} {nx : Nat}
theorem mkCont_rel {l : List AV} {xs : List Value} (h : AV.rels ρ nx l xs) : (mkCont l).rel ρ nx (fun j => xs.toArray[j]?) := by
  have hcells : Cont.rel ρ nx (.cells l) (fun j => xs.toArray[j]?) := fun r c a ha => by
    cases c <;> simp only [Cont.at] at ha
    · split at ha
      · rename_i v hv
        cases ha
        obtain ⟨x, hx, hr⟩ := h.at_ hv
        exact ⟨by simp [Cont.width], x, by simpa [Cont.width] using hx, hr⟩
      · cases ha
    · cases ha
  unfold mkCont
  split
  · exact hcells
  · split
    · rename_i k zs hz
      rw [allInts_eq hz] at h
      intro r c a ha
      cases c <;> simp only [Cont.at] at ha <;> try cases ha
      simp only [Col.at, Option.some.injEq, Prod.mk.injEq, decide_eq_true_eq] at ha
      obtain ⟨rfl, hlt⟩ := ha
      obtain ⟨x, hx, hr⟩ := h.at_ (i := r) (a := .val (.int k (zs.getD r 0))) (by simp [hlt])
      exact ⟨by simp [Cont.width], x, by simpa [Cont.width] using hx, hr⟩
    · split
      · rename_i bs hz
        rw [allBools_eq hz] at h
        intro r c a ha
        cases c <;> simp only [Cont.at] at ha <;> try cases ha
        simp only [Col.at, Option.some.injEq, Prod.mk.injEq, decide_eq_true_eq] at ha
        obtain ⟨rfl, hlt⟩ := ha
        obtain ⟨x, hx, hr⟩ := h.at_ (i := r) (a := .val (.bool (bs.getD r false))) (by simp [hlt])
        exact ⟨by simp [Cont.width], x, by simpa [Cont.width] using hx, hr⟩
      · split
        · rename_i ss hz
          rw [allStrs_eq hz] at h
          intro r c a ha
          cases c <;> simp only [Cont.at] at ha <;> try cases ha
          simp only [Col.at, Option.some.injEq, Prod.mk.injEq, decide_eq_true_eq] at ha
          obtain ⟨rfl, hlt⟩ := ha
          obtain ⟨x, hx, hr⟩ := h.at_ (i := r) (a := .val (.string (ss.getD r ⟨#[]⟩))) (by simp [hlt])
          exact ⟨by simp [Cont.width], x, by simpa [Cont.width] using hx, hr⟩
        · exact hcells
def AV.cellsOf : AV → Option (List AV)
  | .agg cs => some cs
  | a => match a.scalar with
    | true => some [a]
    | false => none
theorem AV.cellsOf_ok {a : AV} {l : List AV} {x : Value} (h : a.cellsOf = some l) (hx : AV.rel ρ nx a x) : ∃ xs : List Value, x.cells = xs.toArray ∧ AV.rels ρ nx l xs := by
  unfold AV.cellsOf at h
  split at h
  · cases h
    simp only [AV.rel] at hx
    obtain ⟨xs, rfl, hxs⟩ := hx
    exact ⟨xs, rfl, hxs⟩
  · rename_i hne
    cases hs : a.scalar with
    | false => rw [hs] at h; cases h
    | true =>
      rw [hs] at h
      cases h
      refine ⟨[x], ?_, by simp only [AV.rels]; exact ⟨x, [], rfl, hx, rfl⟩⟩
      have := AV.scalar_rel hs hx
      cases x <;> first | rfl | (cases this)
/-- One operation that makes or writes memory. -/
def MemOk (P : Program) (s : Sem Value) (ρ : Rho) (m : MS) (w : World) (v : AV) (m' : MS) : Prop :=
  ∃ ρ' x w', s.run P w = .ok x w' ∧ AV.rel ρ' m'.nx v x ∧ MRel ρ' m' w' ∧ Moves m.nx ρ ρ' m m' w w'
theorem PureOk.mem {s : Sem Value} {v : AV} (h : PureOk P s ρ m.nx w v) (hm : MRel ρ m w) : MemOk P s ρ m w v m := by
  obtain ⟨x, h1, h2⟩ := h
  exact ⟨ρ, x, w, h1, h2, hm, Moves.refl (Nat.le_refl _)⟩
def MS.new (m : MS) (b : ABlk) : MS := ⟨(m.nx, some b) :: m.bl, m.nx + 1⟩
def boxA (m : MS) (a : AV) : Option (AV × MS) := match a.cellsOf with
  | some l => some (.ptr m.nx 1 0 0, m.new ⟨true, false, mkCont l⟩)
  | none => none
theorem boxA_ok {t : TypeId} {a v : AV} {m' : MS} {x : Value} (h : boxA m a = some (v, m')) (hm : MRel ρ m w) (hx : AV.rel ρ m.nx a x) : MemOk P (Instr.box t x) ρ m w v m' := by
  unfold boxA at h
  split at h
  · rename_i l hl
    cases h
    obtain ⟨xs, hc, hr⟩ := AV.cellsOf_ok hl hx
    obtain ⟨h1, h2⟩ := hm.alloc (b := ⟨true, false, mkCont l⟩) (cs := xs.toArray) (t := t) (cap := 0) (mkCont_rel hr) (fun h => by cases h) (mkCont_plain l)
    refine ⟨_, .pointer (some ⟨w.heap.size, 0, none⟩), _, ?_, ?_, h1, h2⟩
    · simp [Instr.box, newVar, newRow, hc]
    · simp only [AV.rel, MS.new, Rho.new, if_true]
      exact ⟨Nat.lt_succ_self _, trivial⟩
  · cases h
def zeroA (P : Program) (t : TypeId) : Option AV := match P.info? t with
  | some i => match i.zero with
    | some v => some (ofConst v)
    | none => none
  | none => none
theorem ofConst_rel (v : Value) : AV.rel ρ nx (ofConst v) v := by
  unfold ofConst
  split
  · rename_i cs
    simp only [AV.rel]
    exact ⟨cs.toList, by simp, AV.rels.vals _⟩
  · simp [AV.rel]
theorem zeroA_ok {t : TypeId} {a : AV} (h : zeroA P t = some a) : ∃ v, (∀ w, (zeroValue t).run P w = .ok v w) ∧ a = ofConst v := by
  unfold zeroA at h
  cases hi : P.info? t with
  | none => rw [hi] at h; cases h
  | some i =>
    rw [hi] at h
    dsimp only at h
    cases hz : i.zero with
    | none => rw [hz] at h; cases h
    | some v =>
      rw [hz] at h
      cases h
      exact ⟨v, fun w => by simp [zeroValue, run_typeInfo hi, hz], rfl⟩
def allocA (P : Program) (m : MS) (t : TypeId) : Option (AV × MS) := match zeroA P t with
  | some a => boxA m a
  | none => none
theorem allocA_ok {t : TypeId} {v : AV} {m' : MS} (h : allocA P m t = some (v, m')) (hm : MRel ρ m w) : MemOk P (Instr.alloc t true (.tuple #[])) ρ m w v m' := by
  unfold allocA at h
  cases hz : zeroA P t with
  | none => rw [hz] at h; cases h
  | some a =>
    rw [hz] at h
    obtain ⟨z, h1, rfl⟩ := zeroA_ok hz
    obtain ⟨ρ', x, w', h2, h3⟩ := boxA_ok (P := P) (t := t) h hm (ofConst_rel z)
    refine ⟨ρ', x, w', ?_, h3⟩
    simp only [Instr.box] at h2
    simpa [Instr.alloc, h1] using h2
/-- Cells put at a place. -/
def setMany : List AV → Nat → List AV → List AV
  | l, _, [] => l
  | l, o, c :: cs => setMany (l.set o c) (o + 1) cs
def setManyV : List Value → Nat → List Value → List Value
  | l, _, [] => l
  | l, o, c :: cs => setManyV (l.set o c) (o + 1) cs
theorem setMany_rels : ∀ {cs : List AV} {ys : List Value} {l : List AV} {xs : List Value} (o : Nat), AV.rels ρ nx l xs → AV.rels ρ nx cs ys → AV.rels ρ nx (setMany l o cs) (setManyV xs o ys)
  | [], ys, l, xs, o, h, h' => by simp only [AV.rels] at h'; subst h'; exact h
  | c :: cs, ys, l, xs, o, h, h' => by
    simp only [AV.rels] at h'
    obtain ⟨y, zs, rfl, h1, h2⟩ := h'
    exact setMany_rels (o + 1) (h.set h1) h2
theorem setManyV_eq : ∀ (ys : List Value) (xs : List Value) (o j : Nat), (ys.zipIdx j).foldl (fun (cs : Array Value) (p : Value × Nat) => cs.setIfInBounds (o + p.2) p.1) xs.toArray = (setManyV xs (o + j) ys).toArray
  | [], xs, o, j => by simp [setManyV]
  | y :: ys, xs, o, j => by
    have := setManyV_eq ys (xs.set (o + j) y) o (j + 1)
    simp only [List.zipIdx_cons, List.foldl_cons, setManyV, List.setIfInBounds_toArray]
    exact this
def fillA (place : Nat → Option (Nat × Nat)) : List AV → List (Nat × AV) → Option (List AV)
  | l, [] => some l
  | l, (i, a) :: rest => match place i with
    | none => none
    | some (off, size) => match a.cellsOf with
      | none => none
      | some cs => match Nat.beq cs.length size with
        | false => none
        | true => match Nat.ble (off + cs.length) l.length with
          | false => none
          | true => fillA place (setMany l off cs) rest
def PRel (ρ : Rho) (nx : Nat) : List (Nat × AV) → List (Nat × Value) → Prop
  | [], ys => ys = []
  | (i, a) :: r, ys => ∃ y zs, ys = (i, y) :: zs ∧ AV.rel ρ nx a y ∧ PRel ρ nx r zs
theorem fillA_ok {place : Nat → Option (Nat × Nat)} : ∀ {ps : List (Nat × AV)} {qs : List (Nat × Value)} {l l' : List AV} {xs : List Value}, fillA place l ps = some l' → PRel ρ nx ps qs → AV.rels ρ nx l xs →
    ∃ xs' : List Value, Instr.fill place xs.toArray qs = some xs'.toArray ∧ AV.rels ρ nx l' xs'
  | [], qs, l, l', xs, h, hp, hr => by
    simp only [PRel] at hp
    subst hp
    cases h
    exact ⟨xs, rfl, hr⟩
  | (i, a) :: ps, qs, l, l', xs, h, hp, hr => by
    simp only [PRel] at hp
    obtain ⟨y, zs, rfl, h1, h2⟩ := hp
    simp only [fillA] at h
    cases hpl : place i with
    | none => rw [hpl] at h; cases h
    | some q =>
      obtain ⟨off, size⟩ := q
      rw [hpl] at h
      dsimp only at h
      cases hc : a.cellsOf with
      | none => rw [hc] at h; cases h
      | some cs =>
        rw [hc] at h
        dsimp only at h
        cases hb1 : Nat.beq cs.length size with
        | false => rw [hb1] at h; cases h
        | true =>
          rw [hb1] at h
          dsimp only at h
          cases hb2 : Nat.ble (off + cs.length) l.length with
          | false => rw [hb2] at h; cases h
          | true =>
            rw [hb2] at h
            dsimp only at h
            obtain ⟨ys, hy, hry⟩ := AV.cellsOf_ok hc h1
            have e1 := Nat.eq_of_beq_eq_true hb1
            have e2 := Nat.le_of_ble_eq_true hb2
            have l1 := hry.len
            have l2 := hr.len
            obtain ⟨xs', g1, g2⟩ := fillA_ok h h2 (setMany_rels off hr hry)
            refine ⟨xs', ?_, g2⟩
            simp only [Instr.fill, hpl, hy]
            rw [if_neg (by simp; omega)]
            have := setManyV_eq ys xs off 0
            simp only [Nat.add_zero] at this
            rw [← g1, ← this]
            simp
/-- The places of a struct's fields. -/
def fieldSize (P : Program) (f : Field) : Nat := match P.info? f.type with
  | some i => i.size
  | none => 0
theorem run_places : ∀ (fs : List Field), (fs.all fun f => (P.info? f.type).isSome) = true → ∀ w, (fs.mapM fun f => do pure (f.offset, ← sizeOf f.type) : Sem (List (Nat × Nat))).run P w = .ok (fs.map fun f => (f.offset, fieldSize P f)) w
  | [], _, w => by simp
  | f :: fs, h, w => by
    simp only [List.all_cons, Bool.and_eq_true] at h
    obtain ⟨i, hi⟩ := Option.isSome_iff_exists.1 h.1
    have := run_places fs h.2 w
    simp only [List.mapM_cons, Sem.run_bind, run_sizeOf hi, Result.andThen_ok, Sem.run_pure, this, List.map_cons, fieldSize, hi]
def buildA (P : Program) (t : TypeId) (ps : List (Nat × AV)) : Option AV := match zeroA P t with
  | some (.agg z) => match P.underlying t with
    | some (.struct fs) => match fs.toList.all fun f => (P.info? f.type).isSome with
      | true => match fillA (fun i => match fs[i]? with | some f => some (f.offset, fieldSize P f) | none => none) z ps with
        | some l => some (.agg l)
        | none => none
      | false => none
    | some (.array _ e) => match P.info? e with
      | some f => match fillA (fun i => some (i * f.size, f.size)) z ps with
        | some l => some (.agg l)
        | none => none
      | none => none
    | _ => none
  | _ => none
theorem ofConst_agg {v : Value} {z : List AV} (h : ofConst v = .agg z) : ∃ cs : List Value, v = .agg cs.toArray ∧ z = cs.map AV.val := by
  unfold ofConst at h
  split at h
  · rename_i cs
    cases h
    exact ⟨cs.toList, by simp, rfl⟩
  · cases h
theorem buildA_ok {t : TypeId} {ps : List (Nat × AV)} {qs : List (Nat × Value)} {v : AV} (h : buildA P t ps = some v) (hp : PRel ρ nx ps qs) : PureOk P (Instr.build t qs.toArray) ρ nx w v := by
  unfold buildA at h
  cases hz : zeroA P t with
  | none => rw [hz] at h; cases h
  | some za =>
    obtain ⟨zv, hzv, rfl⟩ := zeroA_ok hz
    rw [hz] at h
    cases hza : ofConst zv with
    | agg z =>
      rw [hza] at h
      dsimp only at h
      obtain ⟨cs, rfl, rfl⟩ := ofConst_agg hza
      cases hu : P.underlying t with
      | none => rw [hu] at h; cases h
      | some ty =>
        rw [hu] at h
        cases ty with
        | struct fs =>
          dsimp only at h
          cases hall : fs.toList.all fun f => (P.info? f.type).isSome with
          | false => rw [hall] at h; cases h
          | true =>
            rw [hall] at h
            dsimp only at h
            cases hf : fillA (fun i => match fs[i]? with | some f => some (f.offset, fieldSize P f) | none => none) (cs.map AV.val) ps with
            | none => rw [hf] at h; cases h
            | some l =>
              rw [hf] at h
              cases h
              obtain ⟨xs, g1, g2⟩ := fillA_ok hf hp (AV.rels.vals cs)
              refine mkPure (.agg xs.toArray) ?_ (by simp only [AV.rel]; exact ⟨xs, rfl, g2⟩)
              have hm : (fs.mapM fun f => do pure (f.offset, ← sizeOf f.type) : Sem (Array (Nat × Nat))).run P w = .ok (fs.map fun f => (f.offset, fieldSize P f)) w := by
                have := run_places fs.toList hall w
                rw [Array.mapM_eq_mapM_toList]
                simp only [Sem.run_map, this, Result.andThen_ok]
                simp [← Array.toList_map]
              have e : (fun (i : Nat) => (fs.map fun f => (f.offset, fieldSize P f))[i]?) = (fun i => match fs[i]? with | some f => some (f.offset, fieldSize P f) | none => none) := by
                funext i
                simp only [Array.getElem?_map]
                cases fs[i]? <;> rfl
              simp only [Instr.build, Sem.run_bind, hzv, Result.andThen_ok, run_underlying hu, hm, Value.cells, e, g1, Sem.run_pure]
        | array n e =>
          dsimp only at h
          cases hi : P.info? e with
          | none => rw [hi] at h; cases h
          | some f =>
            rw [hi] at h
            dsimp only at h
            cases hf : fillA (fun i => some (i * f.size, f.size)) (cs.map AV.val) ps with
            | none => rw [hf] at h; cases h
            | some l =>
              rw [hf] at h
              cases h
              obtain ⟨xs, g1, g2⟩ := fillA_ok hf hp (AV.rels.vals cs)
              refine mkPure (.agg xs.toArray) ?_ (by simp only [AV.rel]; exact ⟨xs, rfl, g2⟩)
              simp only [Instr.build, Sem.run_bind, hzv, Result.andThen_ok, run_underlying hu, run_sizeOf hi, Value.cells, g1, Sem.run_pure]
        | _ => cases h
    | _ => rw [hza] at h; cases h
def zerosA (z : List AV) (n : Nat) : List AV := (List.range n).map fun i => z.getD (i % z.length) .unk
theorem zerosA_rels {z : List AV} {zs : List Value} (h : AV.rels ρ nx z zs) (n : Nat) : AV.rels ρ nx (zerosA z n) ((List.range n).map (zs.toArray[· % zs.toArray.size]!)) := by
  unfold zerosA
  generalize List.range n = L
  induction L with
  | nil => simp [AV.rels]
  | cons i L ih =>
    simp only [List.map_cons, AV.rels]
    refine ⟨_, _, rfl, ?_, ih⟩
    have hl := h.len
    cases hz : z[i % z.length]? with
    | none => simp [hz, AV.rel]
    | some a =>
      obtain ⟨x, hx, hr⟩ := h.at_ hz
      have e : zs.toArray[i % zs.toArray.size]! = x := by
        rw [hl] at hx
        simp [hx]
      rw [e]
      simpa [hz] using hr
def buildSliceA (P : Program) (m : MS) (t : TypeId) (len : Nat) (ps : List (Nat × AV)) : Option (AV × MS) := match P.underlying t with
  | some (.slice e) => match P.info? e with
    | some f => match Nat.ble (len * f.size) 16777216 with
      | true => match (match Nat.beq (len * f.size) 0 with
          | true => some []
          | false => match zeroA P e with
            | some a => a.cellsOf
            | none => none) with
        | some z => match fillA (fun i => some (i * f.size, f.size)) (zerosA z (len * f.size)) ps with
          | some l => some (.sl true m.nx 1 0 f.size len (some len), m.new ⟨true, false, mkCont l⟩)
          | none => none
        | none => none
      | false => none
    | none => none
  | _ => none
theorem buildSliceA_ok {t : TypeId} {len : Nat} {ps : List (Nat × AV)} {qs : List (Nat × Value)} {v : AV} {m' : MS} (h : buildSliceA P m t len ps = some (v, m')) (hm : MRel ρ m w) (hp : PRel ρ m.nx ps qs) :
    MemOk P (Instr.buildSlice t len qs.toArray) ρ m w v m' := by
  unfold buildSliceA at h
  split at h
  · rename_i e hu
    cases hi : P.info? e with
    | none => rw [hi] at h; cases h
    | some f =>
      rw [hi] at h
      dsimp only at h
      cases hb : Nat.ble (len * f.size) 16777216 with
      | false => rw [hb] at h; cases h
      | true =>
        rw [hb] at h
        dsimp only at h
        have hle := Nat.le_of_ble_eq_true hb
        split at h
        · rename_i z hz
          cases hf : fillA (fun i => some (i * f.size, f.size)) (zerosA z (len * f.size)) ps with
          | none => rw [hf] at h; cases h
          | some l =>
            rw [hf] at h
            cases h
            have hzz : ∃ zs : List Value, AV.rels ρ m.nx z zs ∧ ((len * f.size = 0 ∧ zs = []) ∨ (len * f.size ≠ 0 ∧ ∃ zv, (∀ w, (zeroValue e).run P w = .ok zv w) ∧ zv.cells = zs.toArray)) := by
              split at hz
              · rename_i h0
                cases hz
                exact ⟨[], by simp [AV.rels], .inl ⟨Nat.eq_of_beq_eq_true h0, rfl⟩⟩
              · rename_i h0
                cases hza : zeroA P e with
                | none => rw [hza] at hz; cases hz
                | some za =>
                  rw [hza] at hz
                  obtain ⟨zv, hzv, rfl⟩ := zeroA_ok hza
                  obtain ⟨zs, hc, hr⟩ := AV.cellsOf_ok hz (ofConst_rel (ρ := ρ) (nx := m.nx) zv)
                  exact ⟨zs, hr, .inr ⟨(fun e => by rw [e] at h0; cases h0), zv, hzv, hc⟩⟩
            obtain ⟨zs, hzr, hzv⟩ := hzz
            obtain ⟨xs, g1, g2⟩ := fillA_ok hf hp (zerosA_rels hzr (len * f.size))
            obtain ⟨h1, h2⟩ := hm.alloc (b := ⟨true, false, mkCont l⟩) (cs := xs.toArray) (t := e) (cap := 0) (mkCont_rel g2) (fun h => by cases h) (mkCont_plain l)
            refine ⟨_, .slice (some ⟨w.heap.size, 0, none⟩) len len, _, ?_, ?_, h1, h2⟩
            · have e0 : ((Array.range (len * f.size)).map (zs.toArray[· % zs.toArray.size]!)) = ((List.range (len * f.size)).map (zs.toArray[· % zs.toArray.size]!)).toArray := by
                apply Array.ext'; simp
              simp only [Instr.buildSlice, Sem.run_bind, run_underlying hu, Result.andThen_ok, run_sizeOf hi]
              rw [if_neg (by omega)]
              rcases hzv with ⟨h0, rfl⟩ | ⟨h0, zv, hzv, hc⟩
              · rw [if_pos h0]
                simp only [Sem.run_bind, Sem.run_pure, Result.andThen_ok]
                rw [e0, g1]
                simp [newRow]
              · rw [if_neg h0]
                simp only [Sem.run_bind, hzv, Sem.run_pure, Result.andThen_ok, hc]
                rw [e0, g1]
                simp [newRow]
            · simp only [AV.rel, MS.new, Rho.new, if_true]
              exact ⟨Nat.lt_succ_self _, _, len, rfl, Nat.le_refl _, fun _ => by simp, fun _ => rfl, rfl⟩
        · cases h
  · cases h
/-- What is stored, cell by cell. -/
def setN (k : Cont) (w r c : Nat) : List AV → Nat → Option (Cont × List Bool)
  | [], _ => some (k, [])
  | a :: as, j => match bump w r c j with
    | (r', c') => match k.set r' c' a with
      | some (k', b) => match setN k' w r c as (j + 1) with
        | some (k'', bs) => match k with
          | .cells _ => some (k'', bs)
          | _ => some (k'', b :: bs)
        | none => none
      | none => none
def storeA (P : Program) (t : TypeId) (m : MS) (a v : AV) : Option (MS × List Bool) := match a with
  | .ptr l w r c => match look m.bl l with
    | some b => match b.wr with
      | true => match Nat.beq b.cont.width w with
        | true => match v.cellsOf with
          | some cs => match P.info? t with
            | some i => match Nat.beq cs.length i.size with
              | true => match setN b.cont w r c cs 0 with
                | some (k, bs) => some (⟨upd m.bl l (some ⟨true, b.op, k⟩), m.nx⟩, bs)
                | none => none
              | false => none
            | none => none
          | none => none
        | false => none
      | false => none
    | none => none
  | _ => none
theorem Col.set_at {cl cl' : Col} {r : Nat} {v : AV} (h : cl.set r v = some (cl', true)) : ∃ a, cl.at r = (a, true) := by
  cases cl <;> cases v <;> simp only [Col.set] at h <;> try cases h
  all_goals (rename_i u; cases u <;> simp only [Col.set] at h <;> try cases h)
  · rename_i k zs k' n
    by_cases hk : k = k'
    · simp [hk] at h
      exact ⟨_, by simp only [Col.at]; rw [decide_eq_true h.2]⟩
    · simp [hk] at h
  · simp only [Option.some.injEq, Prod.mk.injEq] at h; exact ⟨_, by simp only [Col.at]; rw [h.2]⟩
  · simp only [Option.some.injEq, Prod.mk.injEq] at h; exact ⟨_, by simp only [Col.at]; rw [h.2]⟩
theorem Cont.set_at {k k' : Cont} {r c : Nat} {v : AV} (h : k.set r c v = some (k', true)) : ∃ a, k.at r c = some (a, true) := by
  cases k with
  | cells l =>
    cases c <;> simp only [Cont.set] at h <;> try cases h
    cases hb : Nat.blt r l.length <;> simp only [hb] at h <;> try cases h
    have hlt : r < l.length := by simpa [Nat.blt_eq] using hb
    exact ⟨l[r], by simp only [Cont.at]; rw [List.getElem?_eq_getElem hlt]⟩
  | col cl =>
    cases c <;> simp only [Cont.set] at h <;> try cases h
    cases hc : cl.set r v with
    | none => simp [hc] at h
    | some p =>
      obtain ⟨cl', b'⟩ := p
      simp only [hc, Option.some.injEq, Prod.mk.injEq] at h
      obtain ⟨rfl, rfl⟩ := h
      obtain ⟨a, ha⟩ := Col.set_at hc
      exact ⟨a, by simp only [Cont.at]; rw [ha]⟩
  | rows cs =>
    simp only [Cont.set] at h
    cases hcc : cs[c]? with
    | none => simp [hcc] at h
    | some cl =>
      simp only [hcc] at h
      cases hc : cl.set r v with
      | none => simp [hc] at h
      | some p =>
        obtain ⟨cl', b'⟩ := p
        simp only [hc, Option.some.injEq, Prod.mk.injEq] at h
        obtain ⟨rfl, rfl⟩ := h
        obtain ⟨a, ha⟩ := Col.set_at hc
        exact ⟨a, by simp only [Cont.at, hcc]; rw [ha]⟩
  | obj q => cases c <;> (simp only [Cont.set] at h; cases h)
theorem Cont.set_cells {l : List AV} {k' : Cont} {r c : Nat} {v : AV} {b : Bool} (h : (Cont.cells l).set r c v = some (k', b)) : b = true := by
  cases c <;> simp only [Cont.set] at h <;> try cases h
  cases hb : Nat.blt r l.length <;> simp only [hb] at h <;> try cases h
  cases hs : v.scalar <;> simp only [hs] at h <;> cases h
  rfl
theorem upd_upd (l : Nat) (a b : Option ABlk) : ∀ s, upd (upd s l a) l b = upd s l b
  | [] => by simp [upd]
  | (l', c) :: r => by
    simp only [upd]
    by_cases h : l' = l
    · subst h; simp [upd]
    · rw [nbeq_ne h]; simp only [upd]; rw [nbeq_ne h, upd_upd l a b r]
theorem storeN_ok {l : Nat} {r c : Nat} : ∀ (as : List AV) (j : Nat) (m : MS) (b : ABlk) (k : Cont) (bs : List Bool) (w : World) (ys : List Value), MRel ρ m w → look m.bl l = some b → b.wr = true → setN b.cont b.cont.width r c as j = some (k, bs) → bs.all id = true → AV.rels ρ m.nx as ys →
    ∃ w', (storeCells ⟨(ρ l).b, (ρ l).o + (r * b.cont.width + c), none⟩ ys j).run P w = .ok () w' ∧ MRel ρ ⟨upd m.bl l (some ⟨true, b.op, k⟩), m.nx⟩ w' ∧ Moves m.nx ρ ρ m ⟨upd m.bl l (some ⟨true, b.op, k⟩), m.nx⟩ w w'
  | [], j, m, b, k, bs, w, ys, hm, hl, hw, h, _, hr => by
    simp only [AV.rels] at hr
    subst hr
    simp only [setN] at h
    cases h
    have eb : (⟨true, b.op, b.cont⟩ : ABlk) = b := by cases b; simp at hw; simp [hw]
    have el : ∀ l', look (upd m.bl l (some b)) l' = look m.bl l' := fun l' => by
      rw [look_upd]; split
      · rename_i e; subst e; exact hl.symm
      · rfl
    rw [eb]
    refine ⟨w, rfl, hm.less (Nat.le_refl _) (fun l' b' h' => by rw [← el]; exact h'), ⟨fun _ _ => rfl, Nat.le_refl _, rfl, rfl, rfl, Nat.le_refl _, fun _ _ _ => rfl, fun g hg => .inl ?_⟩⟩
    obtain ⟨l1, b1, h1, h2, h3⟩ := hg
    exact ⟨l1, b1, by rw [← el]; exact h1, h2, h3⟩
  | a :: as, j, m, b, k, bs, w, ys, hm, hl, hw, h, hbs, hr => by
    simp only [AV.rels] at hr
    obtain ⟨y, zs, rfl, r1, r2⟩ := hr
    simp only [setN] at h
    cases hb : bump b.cont.width r c j with
    | mk r' c' =>
      rw [hb] at h
      dsimp only at h
      cases hs : b.cont.set r' c' a with
      | none => rw [hs] at h; cases h
      | some p =>
        obtain ⟨k1, b1⟩ := p
        rw [hs] at h
        dsimp only at h
        cases hn : setN k1 b.cont.width r c as (j + 1) with
        | none => rw [hn] at h; cases h
        | some q =>
          obtain ⟨k2, bs2⟩ := q
          rw [hn] at h
          have hfin : b1 = true ∧ k2 = k ∧ bs2.all id = true := by
            cases hk : b.cont with
            | cells l =>
              rw [hk] at h hs
              cases h
              exact ⟨Cont.set_cells hs, rfl, hbs⟩
            | col cl => rw [hk] at h; cases h; exact ⟨(all_cons hbs).1, rfl, (all_cons hbs).2⟩
            | rows cs => rw [hk] at h; cases h; exact ⟨(all_cons hbs).1, rfl, (all_cons hbs).2⟩
            | obj q => rw [hk] at h; cases h; exact ⟨(all_cons hbs).1, rfl, (all_cons hbs).2⟩
          obtain ⟨rfl, rfl, hbs2⟩ := hfin
          obtain ⟨at0, hat⟩ := Cont.set_at hs
          obtain ⟨_, y0, hy0, _⟩ := (hm.blk l b hl).2.rel r' c' at0 hat
          obtain ⟨g1, g2, g3⟩ := hm.store hl hw hs r1 hy0
          have hsc : a.scalar = true := ((hm.blk l b hl).2.rel.set (x := y) (cell' := fun j => (w.setCell ⟨(ρ l).b, (ρ l).o + (r' * b.cont.width + c'), none⟩ y).cell? ⟨(ρ l).b, (ρ l).o + j, none⟩) hs r1
            (by simp only [cell_setCell _ _ _ _ _ hy0]; simp) (fun i hi => by simp only [cell_setCell _ _ _ _ _ hy0]; rw [if_neg (by omega)])).2.2.1
          have hone := AV.scalar_rel hsc r1
          have hl' : look (upd m.bl l (some ⟨b.wr, b.op, k1⟩)) l = some ⟨b.wr, b.op, k1⟩ := by rw [look_upd, if_pos rfl]
          obtain ⟨w', e1, e2, e3⟩ := storeN_ok as (j + 1) ⟨upd m.bl l (some ⟨b.wr, b.op, k1⟩), m.nx⟩ ⟨b.wr, b.op, k1⟩ k2 bs2 _ zs g1 hl' hw (by rw [g3]; exact hn) hbs2 r2
          have hy0' : w.cell? ⟨(ρ l).b, (ρ l).o + (r' * b.cont.width + c'), none⟩ = some y0 := hy0
          have hfz := (hm.blk l b hl).2.free hw ((ρ l).o + (r' * b.cont.width + c'))
          simp only [upd_upd] at e2 e3
          refine ⟨w', ?_, e2, g2.trans e3⟩
          simp only [g3] at e1
          have ea : (⟨(ρ l).b, (ρ l).o + (r * b.cont.width + c), none⟩ : Addr).add j = ⟨(ρ l).b, (ρ l).o + (r' * b.cont.width + c'), none⟩ := by
            rw [add_none, bump_ok hb]; simp [Nat.add_assoc]
          simp only [storeCells, Sem.run_bind, ea, run_store _ _ _ _ _ hone, hy0', hfz, Bool.false_eq_true, if_false, Result.andThen_ok, e1]
theorem storeA_ok {t : TypeId} {a v : AV} {m' : MS} {bs : List Bool} {x y : Value} (h : storeA P t m a v = some (m', bs)) (hm : MRel ρ m w) (hx : AV.rel ρ m.nx a x) (hy : AV.rel ρ m.nx v y) (hbs : bs.all id = true) :
    ∃ w', (Instr.storeAt t x y).run P w = .ok () w' ∧ MRel ρ m' w' ∧ Moves m.nx ρ ρ m m' w w' := by
  unfold storeA at h
  split at h
  · rename_i l wd r c
    simp only [AV.rel] at hx
    obtain ⟨hl, rfl⟩ := hx
    cases hlk : look m.bl l with
    | none => rw [hlk] at h; cases h
    | some b =>
      rw [hlk] at h
      dsimp only at h
      cases hw : b.wr with
      | false => rw [hw] at h; cases h
      | true =>
        rw [hw] at h
        dsimp only at h
        cases hwd : Nat.beq b.cont.width wd with
        | false => rw [hwd] at h; cases h
        | true =>
          rw [hwd] at h
          dsimp only at h
          have := Nat.eq_of_beq_eq_true hwd
          subst this
          cases hc : v.cellsOf with
          | none => rw [hc] at h; cases h
          | some cs =>
            rw [hc] at h
            dsimp only at h
            cases hi : P.info? t with
            | none => rw [hi] at h; cases h
            | some i =>
              rw [hi] at h
              dsimp only at h
              cases hb : Nat.beq cs.length i.size with
              | false => rw [hb] at h; cases h
              | true =>
                rw [hb] at h
                dsimp only at h
                cases hn : setN b.cont b.cont.width r c cs 0 with
                | none => rw [hn] at h; cases h
                | some q =>
                  obtain ⟨k, bs'⟩ := q
                  rw [hn] at h
                  cases h
                  obtain ⟨ys, hcy, hry⟩ := AV.cellsOf_ok hc hy
                  obtain ⟨w', e1, e2, e3⟩ := storeN_ok (P := P) cs 0 m b k bs w ys hm hlk hw hn hbs hry
                  refine ⟨w', ?_, e2, e3⟩
                  have hlen : ys.length = i.size := by rw [← hry.len]; exact Nat.eq_of_beq_eq_true hb
                  simp only [Instr.storeAt, Instr.sureAddr, Sem.run_bind, Sem.run_pure, Result.andThen_ok, storeVar, run_sizeOf hi, hcy]
                  rw [if_neg (by simp [hlen])]
                  simpa using e1
  · cases h
end
end Go.Proofs.YtnkpegdmbocgaaaDoor
