/-
  One operation: what it gives, what becomes of memory, what must be so; held against the model's operation.
-/
import Derived.Test.YtnkpegdmbocgaaaDoorExJ
namespace Go.Proofs.YtnkpegdmbocgaaaDoor
open Go Go.RowKit

/-- Contracts of functions; under none, of a loop's rounds. -/
abbrev Env := Option FuncId → MS → List AV → Option (AV × Option MS × List Bool)
/-- No fence; in a round, or not. -/
abbrev FW (r : Option Nat) : Fence := { fn := fun _ => True, depth := none, alive := false, round := r }
theorem calls_fw {P : Program} {f : FuncId} {args : Array Value} {w : World} {R : Ending → World → Prop} (r : Option Nat) (n : Nat) (h : Calls P f args w R) : CallsIn (FW r) n P f args w R := by
  have h0 : CallsIn Fence.wide n P f args w R := callsIn_wide.2 h
  cases r with
  | none => exact h0
  | some l => exact h0
/-- What is said of a function's calls is so. -/
def Went (P : Program) (f : FuncId) (xs : List Value) (w : World) (Q : Value → World → Prop) : Prop :=
  (∃ j, (callFunc f xs.toArray).run P w = .ok (.enter j xs.toArray) w ∧ Calls P j xs.toArray w fun e w' => ∃ x, e = .returned x ∧ Q x w') ∨ (∃ x w', (callFunc f xs.toArray).run P w = .ok (.value x) w' ∧ Q x w')
theorem Went.mono {P : Program} {f : FuncId} {xs : List Value} {w : World} {Q Q' : Value → World → Prop} (h : Went P f xs w Q) (hq : ∀ x w', Q x w' → Q' x w') : Went P f xs w Q' := by
  rcases h with ⟨j, h1, h2⟩ | ⟨x, w', h1, h2⟩
  · exact .inl ⟨j, h1, Calls.mono h2 fun e w' ⟨x, he, hx⟩ => ⟨x, he, hq x w' hx⟩⟩
  · exact .inr ⟨x, w', h1, hq x w' h2⟩
def FSound (P : Program) (f : FuncId) (m : MS) (args : List AV) (v : AV) (m' : MS) : Prop :=
  ∀ (ρ : Rho) (w : World) (xs : List Value), MRel ρ m w → AV.rels ρ m.nx args xs →
    Went P f xs w fun x w' => ∃ ρ', AV.rel ρ' m'.nx v x ∧ MRel ρ' m' w' ∧ Moves m.nx ρ ρ' m m' w w'
/-- A round of a loop over a function, as the function sees it. -/
def YWent (P : Program) (xs : List Value) (w : World) (Q : Value → World → Prop) : Prop :=
  ∃ L ys, xs = .func (.yield L) #[] #[] :: ys ∧ ∀ (r : Option Nat) (n : Nat), ∃ l f tmps asg body, (Instr.yield L ys.toArray).run P w = .ok (.round l f tmps asg body) w ∧ RoundIn (FW r) n P l f tmps asg body w fun e w' => ∃ x, e = .returned x ∧ Q x w'
def YSound (P : Program) (m : MS) (args : List AV) (v : AV) (m' : MS) : Prop :=
  ∀ (ρ : Rho) (w : World) (xs : List Value), MRel ρ m w → AV.rels ρ m.nx args xs →
    YWent P xs w fun x w' => ∃ ρ', AV.rel ρ' m'.nx v x ∧ MRel ρ' m' w' ∧ Moves m.nx ρ ρ' m m' w w'
structure ESound (P : Program) (E : Env) : Prop where
  fn : ∀ f m args v m' bs, E (some f) m args = some (v, m', bs) → bs.all id = true → FSound P f m args v (m'.getD m)
  yl : ∀ m args v m' bs, E none m args = some (v, m', bs) → bs.all id = true → YSound P m args v (m'.getD m)

def evA (tm : List AV) : Operand → AV
  | .tmp t => tm.getD t .unk
  | .const v => ofConst v
  | .global g => .val (.pointer (some ⟨g, 0, none⟩))
  | .func f => .clo f [] []
/-- By which variable an operation is guarded, and what it must hold. -/
abbrev Key := Option (Nat × Bool)
def sameKey (t : Nat) (w : Bool) : Key → Bool
  | some (t', w') => Nat.beq t t' && (match w, w' with | true, true => true | false, false => true | _, _ => false)
  | none => false
def gdOf (key : Key) : AV → List Bool
  | .gd t w g _ => match sameKey t w key with
    | true => []
    | false => [g]
  | _ => []
def pickA (t : Bool) (a b : AV) : Option AV := match strip a, strip b with
  | .val (.bool x), .val (.bool y) => some (.val (.bool (bif t then x else y)))
  | .val (.int k x), .val (.int k' y) => match decide (k = k') with
    | true => some (.val (.int k (bif t then x else y)))
    | false => none
  | .val (.string x), .val (.string y) => some (.val (.string (bif t then x else y)))
  | _, _ => none
def imps (g : Bool) (l : List Bool) : List Bool := l.map fun b => !g || b
abbrev Res := Option (AV × Option MS × List Bool)
def pure1 : Option AV → Res
  | some v => some (v, none, [])
  | none => none
def pure2 : Option (AV × List Bool) → Res
  | some (v, bs) => some (v, none, bs)
  | none => none
def mem1 : Option (AV × MS) → Res
  | some (v, m) => some (v, some m, [])
  | none => none
def mem2 : Option (AV × MS × List Bool) → Res
  | some (v, m, bs) => some (v, some m, bs)
  | none => none
def convR (P : Program) (s d : TypeId) (m : MS) (a : AV) : Res := match convA P s d a with
  | some v => some (v, none, [])
  | none => match convM P m s d a with
    | some (v, bs) => some (v, none, bs)
    | none => mem1 (convN P m s d a)
def maxR (k : IntKind) : Int → List AV → Option AV
  | x, [] => some (.val (.int k x))
  | x, .val (.int _ y) :: r => maxR k (max x y) r
  | _, _ => none
def minR (k : IntKind) : Int → List AV → Option AV
  | x, [] => some (.val (.int k x))
  | x, .val (.int _ y) :: r => minR k (min x y) r
  | _, _ => none
def maxA : List AV → Option AV
  | .val (.int k x) :: r => maxR k x r
  | _ => none
def minA : List AV → Option AV
  | .val (.int k x) :: r => minR k x r
  | _ => none
def lenA (P : Program) (t : TypeId) (a : AV) : Option AV := match P.underlying t, a with
  | some .string, .val (.string s) => some (.val (.int .i64 (s.size : Int)))
  | some (.array n _), _ => some (.val (.int .i64 (n : Int)))
  | some (.slice _), .sl _ _ _ _ _ n _ => some (.val (.int .i64 (n : Int)))
  | some (.slice _), .val (.slice none n 0) => some (.val (.int .i64 (n : Int)))
  | _, _ => none
def builtinA (P : Program) (b : Builtin) (ts : Array TypeId) (args : List AV) (m : MS) : Res := match b with
  | .len => match args, ts[0]? with
    | a :: _, some t => pure1 (lenA P t a)
    | _, _ => none
  | .max => pure1 (maxA args)
  | .min => pure1 (minA args)
  | .append => match args, ts.toList with
    | [a, b], [t, t'] => match Nat.beq t t' with
      | true => match appendZ P t a b with
        | some v => some (v, none, [])
        | none => mem2 (appendA P m t a b)
      | false => none
    | _, _ => none
  | .copy => match args, ts.toList with
    | [a, b], [t, _] => mem2 (copyA P m t a b)
    | _, _ => none
  | _ => none
def makeFuncA (fn : Fn) (first cap : List AV) : Option AV := match fn with
  | .func f => some (.clo f first cap)
  | _ => none
def execA (P : Program) (E : Env) (o : Oper) (ev : Operand → AV) (m : MS) : Res := match o.op with
  | .move x => some (ev x, none, [])
  | .assign x => some (ev x, none, [])
  | .alloc t => mem1 (allocA P m t)
  | .box _ x => mem1 (boxA m (ev x))
  | .build t ps => pure1 (buildA P t (ps.toList.map fun p => (p.1, ev p.2)))
  | .buildSlice t n ps => mem1 (buildSliceA P m t n (ps.toList.map fun p => (p.1, ev p.2)))
  | .load t x => pure2 (loadA P t m (ev x))
  | .store t x y => match storeA P t m (ev x) (ev y) with
    | some (m', bs) => some (.val undef, some m', bs)
    | none => none
  | .nilCheck x => match ev x with
    | .ptr l w r c => some (.ptr l w r c, none, [])
    | .clo f a b => some (.clo f a b, none, [])
    | _ => none
  | .binOp op t x y _ => pure2 (binA P op t y (ev x) (ev y))
  | .unOp op _ x => pure1 (unA op (ev x))
  | .convert s d x => convR P s d m (ev x)
  | .makeSlice t x y => mem2 (makeA P m t (ev x) (ev y))
  | .slice t x lo hi mx => match mx with
    | none => pure2 (sliceA P t (ev x) (lo.map ev) (hi.map ev))
    | some _ => none
  | .fieldAddr t x f => pure1 (fieldAddrA P t (ev x) f)
  | .field t x f => pure1 (fieldA P t (ev x) f)
  | .indexAddr t x i => pure2 (indexAddrA P t (ev x) (ev i))
  | .index t x i => pure2 (indexA P t (ev x) (ev i))
  | .extract x i => match ev x with
    | .tup vs => pure1 (vs[i]?)
    | _ => none
  | .makeFunc fn first cap => pure1 (makeFuncA fn (first.toList.map ev) (cap.toList.map ev))
  | .call c => match c.callee with
    | .value f => match ev f with
      | .clo g first cap => E (some g) m (first ++ c.args.toList.map ev ++ cap)
      | .yld l => E none m (.yld l :: c.args.toList.map ev)
      | _ => none
    | .builtin b => builtinA P b c.argTypes (c.args.toList.map ev) m
    | _ => none
  | _ => none
section
variable {P : Program} {E : Env} {ρ : Rho} {m : MS} {w : World}
theorem maxR_ok {k : IntKind} {nx : Nat} : ∀ {r : List AV} {x : Int} {v : AV} {xs : List Value}, maxR k x r = some v → AV.rels ρ nx r xs → PureOk P (xs.foldlM Builtin.max2 (.int k x)) ρ nx w v
  | [], x, v, xs, h, hr => by
    simp only [AV.rels] at hr
    subst hr
    simp only [maxR] at h
    cases h
    exact mkPure (.int k x) (by simp) (by simp [AV.rel])
  | a :: r, x, v, xs, h, hr => by
    simp only [AV.rels] at hr
    obtain ⟨y, ys, rfl, h1, h2⟩ := hr
    have hsh : ∃ k' q, a = .val (.int k' q) := by
      cases a with
      | val u => cases u with
        | int k' q => exact ⟨k', q, rfl⟩
        | _ => simp [maxR] at h
      | _ => simp [maxR] at h
    obtain ⟨k', y, rfl⟩ := hsh
    simp only [maxR] at h
    simp only [AV.rel] at h1
    subst h1
    obtain ⟨z, g1, g2⟩ := maxR_ok h h2
    refine mkPure z ?_ g2
    have e : (if y > x then y else x) = max x y := by omega
    simp only [List.foldlM_cons, Builtin.max2, e, pure_bind]
    exact g1
theorem maxA_ok {args : List AV} {v : AV} {xs : List Value} {nx : Nat} (h : maxA args = some v) (hr : AV.rels ρ nx args xs) (ts : Array TypeId) (t : TypeId) : PureOk P (Builtin.max_ ts t xs.toArray) ρ nx w v := by
  unfold maxA at h
  split at h
  · simp only [AV.rels, AV.rel] at hr
    obtain ⟨_, ys, rfl, rfl, hr⟩ := hr
    exact maxR_ok h hr
  · cases h
theorem minR_ok {k : IntKind} {nx : Nat} : ∀ {r : List AV} {x : Int} {v : AV} {xs : List Value}, minR k x r = some v → AV.rels ρ nx r xs → PureOk P (xs.foldlM Builtin.min2 (.int k x)) ρ nx w v
  | [], x, v, xs, h, hr => by
    simp only [AV.rels] at hr
    subst hr
    simp only [minR] at h
    cases h
    exact mkPure (.int k x) (by simp) (by simp [AV.rel])
  | a :: r, x, v, xs, h, hr => by
    simp only [AV.rels] at hr
    obtain ⟨y, ys, rfl, h1, h2⟩ := hr
    have hsh : ∃ k' q, a = .val (.int k' q) := by
      cases a with
      | val u => cases u with
        | int k' q => exact ⟨k', q, rfl⟩
        | _ => simp [minR] at h
      | _ => simp [minR] at h
    obtain ⟨k', y, rfl⟩ := hsh
    simp only [minR] at h
    simp only [AV.rel] at h1
    subst h1
    obtain ⟨z, g1, g2⟩ := minR_ok h h2
    refine mkPure z ?_ g2
    have e : (if y < x then y else x) = min x y := by omega
    simp only [List.foldlM_cons, Builtin.min2, e, pure_bind]
    exact g1
theorem minA_ok {args : List AV} {v : AV} {xs : List Value} {nx : Nat} (h : minA args = some v) (hr : AV.rels ρ nx args xs) (ts : Array TypeId) (t : TypeId) : PureOk P (Builtin.min_ ts t xs.toArray) ρ nx w v := by
  unfold minA at h
  split at h
  · simp only [AV.rels, AV.rel] at hr
    obtain ⟨_, ys, rfl, rfl, hr⟩ := hr
    exact minR_ok h hr
  · cases h
theorem lenA_ok {t : TypeId} {a v : AV} {x : Value} {rest : List Value} {nx : Nat} {ts : Array TypeId} (h : lenA P t a = some v) (ht : ts[0]? = some t) (hx : AV.rel ρ nx a x) (t' : TypeId) : PureOk P (Builtin.len_ ts t' (x :: rest).toArray) ρ nx w v := by
  unfold lenA at h
  split at h
  · rename_i s hu
    simp only [AV.rel] at hx; subst hx; cases h
    exact mkPure _ (by simp [Builtin.len_, ht, run_underlying hu]; rfl) (by simp [AV.rel, goInt])
  · rename_i n e _ hu
    cases h
    exact mkPure _ (by simp [Builtin.len_, ht, run_underlying hu]; rfl) (by simp [AV.rel, goInt])
  · rename_i e nn l wd r s n cap hu
    simp only [AV.rel] at hx
    obtain ⟨_, A, c, rfl, _⟩ := hx
    cases h
    exact mkPure _ (by simp [Builtin.len_, ht, run_underlying hu]; rfl) (by simp [AV.rel, goInt])
  · rename_i e n hu
    simp only [AV.rel] at hx; subst hx; cases h
    exact mkPure _ (by simp [Builtin.len_, ht, run_underlying hu]; rfl) (by simp [AV.rel, goInt])
  · cases h
theorem builtinA_ok {b : Builtin} {ts : Array TypeId} {args : List AV} {v : AV} {mo : Option MS} {bs : List Bool} {xs : List Value} (h : builtinA P b ts args m = some (v, mo, bs)) (hm : MRel ρ m w) (hr : AV.rels ρ m.nx args xs) (hbs : bs.all id = true) (t : TypeId) (cs : Array Bool) :
    ∃ ρ' x w', (builtin b ts t cs xs.toArray).run P w = .ok (.value x) w' ∧ AV.rel ρ' (mo.getD m).nx v x ∧ MRel ρ' (mo.getD m) w' ∧ Moves m.nx ρ ρ' m (mo.getD m) w w' := by
  have pure_case : ∀ {s : Sem Value} {v : AV}, PureOk P s ρ m.nx w v → mo = none → (builtin b ts t cs xs.toArray = do pure (.value (← s))) → ∃ ρ' x w', (builtin b ts t cs xs.toArray).run P w = .ok (.value x) w' ∧ AV.rel ρ' (mo.getD m).nx v x ∧ MRel ρ' (mo.getD m) w' ∧ Moves m.nx ρ ρ' m (mo.getD m) w w' := fun hp hmo he => by
    obtain ⟨x, h1, h2⟩ := hp
    subst hmo
    exact ⟨ρ, x, w, by rw [he]; simp [h1], h2, hm, Moves.refl (Nat.le_refl _)⟩
  unfold builtinA at h
  split at h
  · split at h
    · rename_i a rest t0 ht0
      cases hv : lenA P t0 a with
      | none => rw [hv] at h; cases h
      | some v' =>
        rw [hv] at h
        cases h
        simp only [AV.rels] at hr
        obtain ⟨y, ys, rfl, h1, h2⟩ := hr
        exact pure_case (lenA_ok hv ht0 h1 t) rfl rfl
    · cases h
  · cases hv : maxA args with
    | none => rw [hv] at h; cases h
    | some v' =>
      rw [hv] at h
      cases h
      exact pure_case (maxA_ok hv hr ts t) rfl rfl
  · cases hv : minA args with
    | none => rw [hv] at h; cases h
    | some v' =>
      rw [hv] at h
      cases h
      exact pure_case (minA_ok hv hr ts t) rfl rfl
  · split at h
    · rename_i a b t1 t2 hts
      split at h
      · rename_i he
        have he := Nat.eq_of_beq_eq_true he
        subst he
        have hts : ts = #[t1, t1] := by rw [← Array.toArray_toList (xs := ts), hts]
        subst hts
        simp only [AV.rels] at hr
        obtain ⟨x, _, rfl, h1, y, _, rfl, h2, rfl⟩ := hr
        cases hz : appendZ P t1 a b with
        | some v' =>
          rw [hz] at h
          cases h
          exact pure_case (appendZ_ok (ty := t) hz h1 h2) rfl rfl
        | none =>
        rw [hz] at h
        dsimp only at h
        cases hv : appendA P m t1 a b with
        | none => rw [hv] at h; cases h
        | some q =>
          obtain ⟨v', m', bs'⟩ := q
          rw [hv] at h
          cases h
          obtain ⟨ρ', z, w', g1, g2⟩ := appendA_ok (ty := t) hv hm h1 h2 hbs
          refine ⟨ρ', z, w', ?_, g2⟩
          show ((do pure (Next.value (← Builtin.append_ #[t1, t1] t #[x, y])) : Sem Next)).run P w = _
          simp [g1]
      · cases h
    · cases h
  · split at h
    · rename_i a b t1 t2 hts
      have hts : ts = #[t1, t2] := by rw [← Array.toArray_toList (xs := ts), hts]
      subst hts
      cases hv : copyA P m t1 a b with
      | none => rw [hv] at h; cases h
      | some q =>
        obtain ⟨v', m', bs'⟩ := q
        rw [hv] at h
        cases h
        simp only [AV.rels] at hr
        obtain ⟨x, _, rfl, h1, y, _, rfl, h2, rfl⟩ := hr
        obtain ⟨ρ', z, w', g1, g2⟩ := copyA_ok hv hm h1 h2 hbs t2 t
        refine ⟨ρ', z, w', ?_, g2⟩
        show ((do pure (Next.value (← Builtin.copy_ #[t1, t2] t #[x, y])) : Sem Next)).run P w = _
        simp [g1]
    · cases h
  · cases h
theorem rels_map {ev : Operand → AV} {a : Act} : ∀ l : List Operand, (∀ x, x ∈ l → AV.rel ρ m.nx (ev x) (a.eval x)) → AV.rels ρ m.nx (l.map ev) (l.map a.eval)
  | [], _ => by simp [AV.rels]
  | x :: l, hev => by simp only [List.map_cons, AV.rels]; exact ⟨_, _, rfl, hev x (by simp), rels_map l (fun y hy => hev y (by simp [hy]))⟩
theorem prel_map {ev : Operand → AV} {a : Act} : ∀ l : List (Nat × Operand), (∀ x, x ∈ l.map (·.2) → AV.rel ρ m.nx (ev x) (a.eval x)) → PRel ρ m.nx (l.map fun p => (p.1, ev p.2)) (l.map fun p => (p.1, a.eval p.2))
  | [], _ => by simp [PRel]
  | x :: l, hev => by simp only [List.map_cons, PRel]; exact ⟨_, _, rfl, hev x.2 (by simp), prel_map l (fun y hy => hev y (by rw [List.map_cons]; exact List.mem_cons_of_mem _ hy))⟩
theorem opt_map {ev : Operand → AV} {a : Act} (o : Option Operand) (hev : ∀ x, o = some x → AV.rel ρ m.nx (ev x) (a.eval x)) : optRel ρ m.nx (o.map ev) (o.map a.eval) := by
  cases o with
  | none => rfl
  | some x => exact ⟨_, rfl, hev x rfl⟩
/-- One operation goes as is said. -/
theorem execA_ok {o : Oper} {ev : Operand → AV} {a : Act} {v : AV} {mo : Option MS} {bs : List Bool} (hE : ESound P E) (h : execA P E o ev m = some (v, mo, bs)) (hev : ∀ x, x ∈ o.op.operands → AV.rel ρ m.nx (ev x) (a.eval x)) (hm : MRel ρ m w) (hbs : bs.all id = true)
    {next : Act → World → Prop} {Q : Exit → Act → World → Prop} (k : ∀ ρ' w' x, AV.rel ρ' (mo.getD m).nx v x → MRel ρ' (mo.getD m) w' → Moves m.nx ρ ρ' m (mo.getD m) w w' → next (a.put o.dst x) w') : ∀ (r : Option Nat) (n : Nat), o.wpIn (FW r) n P a w next Q := by
  intro r n
  have hdef : ∀ c, o.op ≠ .defer c := fun c hc => by unfold execA at h; rw [hc] at h; cases h
  have fin : ∀ {R : Result Next}, (execOp a.eval o).run P w = R → o.uponIn (FW r) n P a next Q R → o.wpIn (FW r) n P a w next Q := fun hr hu => ⟨fun _ _ => trivial, by rw [Oper.semAt_eq _ _ _ hdef, hr]; exact hu⟩
  have pcase : ∀ {s : Sem Value} {v' : AV}, PureOk P s ρ m.nx w v' → v = v' → mo = none → (execOp a.eval o = do pure (.value (← s))) → o.wpIn (FW r) n P a w next Q := fun hp hv hmo he => by
    obtain ⟨x, h1, h2⟩ := hp
    subst hv hmo
    exact fin (R := .ok (.value x) w) (by rw [he]; simp only [Sem.run_bind, h1, Result.andThen_ok, Sem.run_pure]) (k ρ w x h2 hm (Moves.refl (Nat.le_refl _)))
  have mcase : ∀ {s : Sem Value} {v' : AV} {m' : MS}, MemOk P s ρ m w v' m' → v = v' → mo = some m' → (execOp a.eval o = do pure (.value (← s))) → o.wpIn (FW r) n P a w next Q := fun hp hv hmo he => by
    obtain ⟨ρ', x, w', h1, h2, h3, h4⟩ := hp
    subst hv hmo
    exact fin (R := .ok (.value x) w') (by rw [he]; simp only [Sem.run_bind, h1, Result.andThen_ok, Sem.run_pure]) (k ρ' w' x h2 h3 h4)
  obtain ⟨dst, op, ty, pos, after, guard⟩ := o
  unfold execA at h
  cases op <;> dsimp only at h
  case move x =>
    cases h
    exact fin (R := .ok (.value (a.eval x)) w) rfl (k ρ w (a.eval x) (hev x (by simp [Op.operands])) hm (Moves.refl (Nat.le_refl _)))
  case assign x =>
    cases h
    exact fin (R := .ok (.value (a.eval x)) w) rfl (k ρ w (a.eval x) (hev x (by simp [Op.operands])) hm (Moves.refl (Nat.le_refl _)))
  case alloc t =>
    cases hv : allocA P m t with
    | none => rw [hv] at h; cases h
    | some p =>
      rw [hv] at h; cases h
      exact mcase (allocA_ok hv hm) rfl rfl rfl
  case box t x =>
    cases hv : boxA m (ev x) with
    | none => rw [hv] at h; cases h
    | some p =>
      rw [hv] at h; cases h
      exact mcase (boxA_ok (t := t) hv hm (hev x (by simp [Op.operands]))) rfl rfl rfl
  case build t ps =>
    cases hv : buildA P t (ps.toList.map fun p => (p.1, ev p.2)) with
    | none => rw [hv] at h; cases h
    | some p =>
      rw [hv] at h; cases h
      refine pcase (buildA_ok hv (prel_map ps.toList (fun x hx => hev x (by simpa [Op.operands] using hx)))) rfl rfl ?_
      simp only [execOp]
      congr 2
      apply Array.ext'; simp
  case buildSlice t n ps =>
    cases hv : buildSliceA P m t n (ps.toList.map fun p => (p.1, ev p.2)) with
    | none => rw [hv] at h; cases h
    | some p =>
      rw [hv] at h; cases h
      refine mcase (buildSliceA_ok hv hm (prel_map ps.toList (fun x hx => hev x (by simpa [Op.operands] using hx)))) rfl rfl ?_
      simp only [execOp]
      congr 2
      apply Array.ext'; simp
  case load t x =>
    cases hv : loadA P t m (ev x) with
    | none => rw [hv] at h; cases h
    | some p =>
      rw [hv] at h; cases h
      exact pcase (loadA_ok hm hv (hev x (by simp [Op.operands])) hbs) rfl rfl rfl
  case store t x y =>
    cases hv : storeA P t m (ev x) (ev y) with
    | none => rw [hv] at h; cases h
    | some p =>
      rw [hv] at h; cases h
      obtain ⟨w', h1, h2, h3⟩ := storeA_ok (P := P) hv hm (hev x (by simp [Op.operands])) (hev y (by simp [Op.operands])) hbs
      exact fin (R := .ok .skip w') (by simp only [execOp, Sem.run_bind, h1, Result.andThen_ok, Sem.run_pure]) (k ρ w' undef (by simp [AV.rel]) h2 h3)
  case nilCheck x =>
    have hx := hev x (by simp [Op.operands])
    split at h
    · rename_i l wd r c he
      cases h
      rw [he] at hx
      have hx' := hx
      simp only [AV.rel] at hx
      exact fin (R := .ok (.value (a.eval x)) w) (by simp only [execOp, hx.2, Sem.run_pure]) (k ρ w _ hx' hm (Moves.refl (Nat.le_refl _)))
    · rename_i f b c he
      cases h
      rw [he] at hx
      have hx' := hx
      simp only [AV.rel] at hx
      obtain ⟨xs, ys, e, _⟩ := hx
      exact fin (R := .ok (.value (a.eval x)) w) (by simp only [execOp, e, Sem.run_pure]) (k ρ w _ hx' hm (Moves.refl (Nat.le_refl _)))
    · cases h
  case binOp op t x y yt =>
    cases hv : binA P op t y (ev x) (ev y) with
    | none => rw [hv] at h; cases h
    | some p =>
      rw [hv] at h; cases h
      refine pcase (binA_ok (xo := x) hv (hev x (by simp [Op.operands])) (hev y (by simp [Op.operands])) (fun q hq => ?_) hbs) rfl rfl rfl
      cases y <;> simp only [constInt] at hq <;> try cases hq
      rename_i u
      cases u <;> simp only [] at hq <;> cases hq
      exact ⟨_, rfl⟩
  case unOp op t x =>
    cases hv : unA op (ev x) with
    | none => rw [hv] at h; cases h
    | some p =>
      rw [hv] at h; cases h
      exact pcase (unA_ok hv (hev x (by simp [Op.operands]))) rfl rfl rfl
  case convert s d x =>
    unfold convR at h
    cases hv : convA P s d (ev x) with
    | some p =>
      rw [hv] at h; cases h
      exact pcase (convA_ok hv (hev x (by simp [Op.operands]))) rfl rfl rfl
    | none =>
      rw [hv] at h
      dsimp only at h
      cases hv2 : convM P m s d (ev x) with
      | some p =>
        obtain ⟨v', bs'⟩ := p
        rw [hv2] at h; cases h
        exact pcase (convM_ok hv2 hm (hev x (by simp [Op.operands])) hbs) rfl rfl rfl
      | none =>
        rw [hv2] at h
        dsimp only at h
        cases hv3 : convN P m s d (ev x) with
        | none => rw [hv3] at h; cases h
        | some p =>
          rw [hv3] at h; cases h
          exact mcase (convN_ok hv3 hm (hev x (by simp [Op.operands]))) rfl rfl rfl
  case makeSlice t x y =>
    cases hv : makeA P m t (ev x) (ev y) with
    | none => rw [hv] at h; cases h
    | some p =>
      obtain ⟨v', m', bs'⟩ := p
      rw [hv] at h; cases h
      exact mcase (makeA_ok hv hm (hev x (by simp [Op.operands])) (hev y (by simp [Op.operands])) hbs) rfl rfl rfl
  case slice t x lo hi mx =>
    cases mx with
    | some _ => cases h
    | none =>
      dsimp only at h
      cases hv : sliceA P t (ev x) (lo.map ev) (hi.map ev) with
      | none => rw [hv] at h; cases h
      | some p =>
        rw [hv] at h; cases h
        exact pcase (sliceA_ok hv (hev x (by simp [Op.operands])) (opt_map lo (fun y hy => hev y (by simp [Op.operands, hy]))) (opt_map hi (fun y hy => hev y (by simp [Op.operands, hy]))) hbs) rfl rfl rfl
  case fieldAddr t x f =>
    cases hv : fieldAddrA P t (ev x) f with
    | none => rw [hv] at h; cases h
    | some p =>
      rw [hv] at h; cases h
      exact pcase (fieldAddrA_ok hv (hev x (by simp [Op.operands]))) rfl rfl rfl
  case field t x f =>
    cases hv : fieldA P t (ev x) f with
    | none => rw [hv] at h; cases h
    | some p =>
      rw [hv] at h; cases h
      exact pcase (fieldA_ok hv (hev x (by simp [Op.operands]))) rfl rfl rfl
  case indexAddr t x i =>
    cases hv : indexAddrA P t (ev x) (ev i) with
    | none => rw [hv] at h; cases h
    | some p =>
      rw [hv] at h; cases h
      exact pcase (indexAddrA_ok hv (hev x (by simp [Op.operands])) (hev i (by simp [Op.operands])) hbs) rfl rfl rfl
  case index t x i =>
    cases hv : indexA P t (ev x) (ev i) with
    | none => rw [hv] at h; cases h
    | some p =>
      rw [hv] at h; cases h
      exact pcase (indexA_ok hv (hev x (by simp [Op.operands])) (hev i (by simp [Op.operands])) hbs) rfl rfl rfl
  case extract x i =>
    have hx := hev x (by simp [Op.operands])
    split at h
    · rename_i vs he
      cases hv : vs[i]? with
      | none => rw [hv] at h; cases h
      | some p =>
        rw [hv] at h; cases h
        rw [he] at hx
        simp only [AV.rel] at hx
        obtain ⟨xs, e, hxs⟩ := hx
        obtain ⟨z, hz, hrz⟩ := hxs.at_ hv
        refine pcase (s := Instr.extract (a.eval x) i) (mkPure z ?_ hrz) rfl rfl rfl
        rw [e]
        simp [Instr.extract, hz]
    · cases h
  case makeFunc fn first cap =>
    cases fn with
    | func f =>
      cases h
      have h1 := rels_map (ev := ev) (ρ := ρ) (m := m) (a := a) first.toList (fun y hy => hev y (by simp [Op.operands]; exact .inl (by simpa using hy)))
      have h2 := rels_map (ev := ev) (ρ := ρ) (m := m) (a := a) cap.toList (fun y hy => hev y (by simp [Op.operands]; exact .inr (by simpa using hy)))
      refine pcase (s := Instr.makeFunc (.func f) (first.map a.eval) (cap.map a.eval)) (mkPure (.func (.func f) (first.map a.eval) (cap.map a.eval)) rfl ?_) rfl rfl rfl
      simp only [AV.rel]
      exact ⟨_, _, by rw [show first.map a.eval = (first.toList.map a.eval).toArray by apply Array.ext'; simp, show cap.map a.eval = (cap.toList.map a.eval).toArray by apply Array.ext'; simp], h1, h2⟩
    | _ => cases h
  case call c =>
    split at h
    · rename_i f hf
      have hx := hev f (by simp [Op.operands, Call.operands, hf])
      split at h
      · rename_i g first cap he
        rw [he] at hx
        simp only [AV.rel] at hx
        obtain ⟨xs, ys, e, h1, h2⟩ := hx
        have hargs := (h1.append (rels_map c.args.toList (fun y hy => hev y (by simp [Op.operands, Call.operands]; exact .inr (by simpa using hy))))).append h2
        have hcall := hE.fn _ _ _ _ _ _ h hbs ρ w _ hm hargs
        have hop : ∀ r, (callFunc g (xs ++ c.args.toList.map a.eval ++ ys).toArray).run P w = r → (execOp a.eval ⟨dst, .call c, ty, pos, after, guard⟩).run P w = r := fun r hr => by
          simp only [execOp, resolve, hf, e, Deferred.ofValue, Sem.run_bind, Sem.run_pure, Result.andThen_ok, invoke]
          rw [← hr]
          congr 2
          apply Array.ext'; simp
        rcases hcall with ⟨j, hj, hc⟩ | ⟨x, w', hj, ρ', hr, hm', hmv⟩
        · refine fin (hop _ hj) ⟨(fun h => by cases h), calls_fw r _ (Calls.mono hc fun en w' ⟨x, hen, ρ', hr, hm', hmv⟩ => ?_)⟩
          subst hen
          exact k ρ' w' x hr hm' hmv
        · exact fin (hop _ hj) (k ρ' w' x hr hm' hmv)
      · rename_i l he
        rw [he] at hx
        have hargs : AV.rels ρ m.nx (.yld l :: c.args.toList.map ev) (a.eval f :: c.args.toList.map a.eval) := by
          simp only [AV.rels]
          exact ⟨_, _, rfl, hx, rels_map c.args.toList (fun y hy => hev y (by simp [Op.operands, Call.operands]; exact .inr (by simpa using hy)))⟩
        obtain ⟨L, ys, hxs, hround⟩ := hE.yl _ _ _ _ _ h hbs ρ w _ hm hargs
        obtain ⟨e, hys⟩ := List.cons.inj hxs
        obtain ⟨l', f', tmps, asg, body, hy, hr⟩ := hround r (n - 1)
        refine fin (R := .ok (.round l' f' tmps asg body) w) ?_ ⟨(fun h => by cases h), RoundIn.mono hr fun en w' ⟨x, hen, ρ', hr, hm', hmv⟩ => ?_⟩
        · simp only [execOp, resolve, hf, e, Deferred.ofValue, Sem.run_bind, Sem.run_pure, Result.andThen_ok, invoke]
          rw [← hy, ← hys]
          congr 2
          apply Array.ext'; simp
        · subst hen
          exact k ρ' w' x hr hm' hmv
      · cases h
    · rename_i b hb
      obtain ⟨ρ', x, w', h1, h2, h3, h4⟩ := builtinA_ok h hm (rels_map c.args.toList (fun y hy => hev y (by simp [Op.operands, Call.operands]; exact .inr (by simpa using hy)))) hbs ty (c.args.map fun | .const _ => true | _ => false)
      have hrun : (execOp a.eval ⟨dst, .call c, ty, pos, after, guard⟩).run P w = .ok (.value x) w' := by
        simp only [execOp, resolve, hb, Sem.run_bind, Sem.run_pure, Result.andThen_ok, invoke]
        rw [← h1]
        congr 2
        apply Array.ext'; simp
      exact fin hrun (k ρ' w' x h2 h3 h4)
    · cases h
  all_goals cases h
end
end Go.Proofs.YtnkpegdmbocgaaaDoor
