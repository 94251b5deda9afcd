/-
  Regions: operations in their text's order, and in any order that the region leaves open.
-/
import Derived.Test.YtnkpegdmbocgaaaDoorEx7
namespace Go.Proofs.YtnkpegdmbocgaaaDoor
open Go Go.RowKit

def putA (tm : List AV) (dst : Option Tmp) (v : AV) : List AV := match dst with
  | some d => tm.set d v
  | none => tm
/-- Whether a guarded operation is carried out. -/
def guardA (ops : Array Oper) (tm : List AV) : Option (Nat × Bool) → Option (Option (Nat × Bool × Bool))
  | none => some none
  | some (j, want) => match ops.toList[j]? with
    | some o => match o.dst with
      | some t => match tm.getD t .unk with
        | .val (.bool b) => some (some (t, want, bif want then b else !b))
        | .gd _ _ g (.val (.bool b)) => some (some (t, want, g && (bif want then b else !b)))
        | _ => none
      | none => none
    | none => none
def keyOf (x : Operand) (w : Bool) : Key := match x with
  | .tmp t => some (t, w)
  | _ => none
def pickOne (key kc : Key) (n : Bool) : AV → List Bool
  | .gd t w g _ => match sameKey t w key || sameKey t w kc with
    | true => []
    | false => [n || g]
  | _ => []
def pickObl (key : Key) (x : Operand) (t : Bool) (a b c : AV) : List Bool :=
  pickOne key (keyOf x true) (!t) a ++ pickOne key (keyOf x false) t b ++ gdOf key c
/-- An operation, without its guard. -/
def coreA (P : Program) (E : Env) (key : Key) (o : Oper) (tm : List AV) (m : MS) : Res := match o.op with
  | .pick c a b => match strip (evA tm c) with
    | .val (.bool t) => match pickA t (evA tm a) (evA tm b) with
      | some v => some (v, none, pickObl key c t (evA tm a) (evA tm b) (evA tm c))
      | none => none
    | _ => none
  | _ => match execA P E o (fun x => strip (evA tm x)) m with
    | some (v, mo, bs) => some (v, mo, (o.op.operands.toList.flatMap fun x => gdOf key (evA tm x)) ++ bs)
    | none => none
def isGd : AV → Bool
  | .gd .. => true
  | _ => false
def stepA (P : Program) (E : Env) (ops : Array Oper) (o : Oper) (tm : List AV) (m : MS) : Res := match guardA ops tm o.guard with
  | none => none
  | some none => match coreA P E none o tm m with
    | some (v, mo, bs) => match isGd v with
      | true => none
      | false => some (v, mo, bs)
    | none => none
  | some (some (t, w, g)) => match coreA P E (some (t, w)) o tm m with
    | some (v, none, bs) => some (.gd t w g v, none, imps g bs)
    | some (v, some m', bs) => match g with
      | true => some (.gd t w true v, some m', bs)
      | false => some (.gd t w false .unk, none, [])
    | none => none
def GI (tm : List AV) (a : Act) : Prop := ∀ (i t : Nat) (w g : Bool) (v : AV), tm[i]? = some (.gd t w g v) → (g = true ↔ a.tmps[t]? = some (.bool w))
def KeyT (key : Key) (a : Act) : Prop := ∀ t w, key = some (t, w) → a.tmps[t]? = some (.bool w)
def cleanA : List AV → List AV
  | [] => []
  | a :: r => (match isGd a with | true => .unk | false => a) :: cleanA r
def NoGd (tm : List AV) : Prop := ∀ (i t : Nat) (w g : Bool) (v : AV), tm[i]? ≠ some (.gd t w g v)
section
variable {P : Program} {E : Env} {ρ : Rho} {m : MS} {w : World} {ops : Array Oper}
theorem putA_ok {nx : Nat} {tm : List AV} {a : Act} {dst : Option Tmp} {v : AV} {x : Value} (h : AV.rels ρ nx tm a.tmps.toList) (hx : AV.rel ρ nx v x) : AV.rels ρ nx (putA tm dst v) (a.put dst x).tmps.toList := by
  cases dst with
  | none => exact h
  | some d =>
    simp only [putA, Act.put, Array.toList_setIfInBounds]
    exact h.set hx
theorem evA_ok {nx : Nat} {tm : List AV} {a : Act} (h : AV.rels ρ nx tm a.tmps.toList) (x : Operand) : AV.rel ρ nx (evA tm x) (a.eval x) := by
  cases x with
  | tmp t =>
    simp only [evA, Act.eval]
    cases ht : tm[t]? with
    | none => simp [ht, AV.rel]
    | some b =>
      obtain ⟨x, hx, hr⟩ := h.at_ ht
      have : a.tmps.getD t undef = x := by
        simp only [Array.getElem?_toList] at hx
        simp [hx]
      rw [this]
      simpa [ht] using hr
  | const v => exact ofConst_rel v
  | global g => simp [evA, Act.eval, AV.rel]
  | func f => simp only [evA, Act.eval, AV.rel]; exact ⟨[], [], rfl, by simp [AV.rels], by simp [AV.rels]⟩
theorem sameKey_eq {t : Nat} {w : Bool} {key : Key} (h : sameKey t w key = true) : key = some (t, w) := by
  unfold sameKey at h
  split at h
  · rename_i t' w'
    simp only [Bool.and_eq_true] at h
    obtain ⟨h1, h2⟩ := h
    have := Nat.eq_of_beq_eq_true h1
    subst this
    cases w <;> cases w' <;> first | rfl | (cases h2)
  · cases h
theorem evA_gd {tm : List AV} {a : Act} {x : Operand} {t : Nat} {w g : Bool} {v : AV} (hG : GI tm a) (h : evA tm x = .gd t w g v) : g = true ↔ a.tmps[t]? = some (.bool w) := by
  cases x with
  | tmp i =>
    simp only [evA] at h
    refine hG i t w g v ?_
    cases hi : tm[i]? with
    | none => simp [hi] at h
    | some u => simp [hi] at h; rw [h]
  | const u => simp only [evA, ofConst] at h; split at h <;> cases h
  | global _ => simp only [evA] at h; cases h
  | func _ => simp only [evA] at h; cases h
theorem strip_ok {nx : Nat} {b : AV} {a : Act} {key : Key} {x : Value} (h : AV.rel ρ nx b x) (hg : (gdOf key b).all id = true) (hb : ∀ t w g v, b = .gd t w g v → (g = true ↔ a.tmps[t]? = some (.bool w))) (hk : KeyT key a) : AV.rel ρ nx (strip b) x := by
  cases b <;> simp only [strip] <;> try exact h
  rename_i t w g v
  simp only [AV.rel] at h
  refine h.1 ?_
  unfold gdOf at hg
  dsimp only at hg
  split at hg
  · rename_i hs
    exact (hb t w g v rfl).2 (hk t w (sameKey_eq hs))
  · simpa using hg
theorem pickOne_ok {nx : Nat} {b : AV} {a : Act} {key kc : Key} {n : Bool} {x : Value} (h : AV.rel ρ nx b x) (hg : (pickOne key kc n b).all id = true) (hn : n = false) (hb : ∀ t w g v, b = .gd t w g v → (g = true ↔ a.tmps[t]? = some (.bool w))) (hk : KeyT key a) (hk' : KeyT kc a) : AV.rel ρ nx (strip b) x := by
  cases b <;> simp only [strip] <;> try exact h
  rename_i t w g v
  simp only [AV.rel] at h
  refine h.1 ?_
  unfold pickOne at hg
  dsimp only at hg
  split at hg
  · rename_i hs
    simp only [Bool.or_eq_true] at hs
    rcases hs with hs | hs
    · exact (hb t w g v rfl).2 (hk t w (sameKey_eq hs))
    · exact (hb t w g v rfl).2 (hk' t w (sameKey_eq hs))
  · rw [hn] at hg; simpa using hg
theorem tmp_bool {a : Act} {t : Nat} {b : Bool} (h : a.eval (.tmp t) = .bool b) : a.tmps[t]? = some (.bool b) := by
  simp only [Act.eval] at h
  cases hq : a.tmps[t]? with
  | none => simp [hq, undef] at h
  | some u => simp [hq] at h; rw [h]
theorem pickA_ok {nx : Nat} {t : Bool} {p q v : AV} {x y : Value} (h : pickA t p q = some v) (ha' : t = true → AV.rel ρ nx (strip p) x) (hb' : t = false → AV.rel ρ nx (strip q) y) : AV.rel ρ nx v (if t then x else y) := by
  unfold pickA at h
  split at h
  · rename_i p q e1 e2
    rw [e1] at ha'; rw [e2] at hb'
    cases h
    cases t
    · have := hb' rfl; simp only [AV.rel] at this ⊢; simp [this]
    · have := ha' rfl; simp only [AV.rel] at this ⊢; simp [this]
  · rename_i k p k' q e1 e2
    rw [e1] at ha'; rw [e2] at hb'
    by_cases hk : k = k'
    · subst hk
      simp only [decide_true, Option.some.injEq] at h
      subst h
      cases t
      · have := hb' rfl; simp only [AV.rel] at this ⊢; simp [this]
      · have := ha' rfl; simp only [AV.rel] at this ⊢; simp [this]
    · simp [hk] at h
  · rename_i p q e1 e2
    rw [e1] at ha'; rw [e2] at hb'
    cases h
    cases t
    · have := hb' rfl; simp only [AV.rel] at this ⊢; simp [this]
    · have := ha' rfl; simp only [AV.rel] at this ⊢; simp [this]
  · cases h
theorem coreA_ok {key : Key} {o : Oper} {tm : List AV} {a : Act} {v : AV} {mo : Option MS} {bs : List Bool} (hE : ESound P E) (h : coreA P E key o tm m = some (v, mo, bs)) (ht : AV.rels ρ m.nx tm a.tmps.toList) (hG : GI tm a) (hk : KeyT key a) (hm : MRel ρ m w) (hbs : bs.all id = true)
    {next : Act → World → Prop} {Q : Exit → Act → World → Prop} (k : ∀ ρ' w' x, AV.rel ρ' (mo.getD m).nx v x → MRel ρ' (mo.getD m) w' → Moves m.nx ρ ρ' m (mo.getD m) w w' → next (a.put o.dst x) w') : ∀ (r : Option Nat) (n : Nat), o.wpIn (FW r) n P a w next Q := by
  have hgd : ∀ x t w g v, evA tm x = .gd t w g v → (g = true ↔ a.tmps[t]? = some (.bool w)) := fun x t w g v hx => evA_gd hG hx
  unfold coreA at h
  split at h
  · rename_i c x y hop
    split at h
    · rename_i t hc
      cases hp : pickA t (evA tm x) (evA tm y) with
      | none => rw [hp] at h; cases h
      | some v' =>
        rw [hp] at h
        cases h
        obtain ⟨hb12, hb3⟩ := all_app hbs
        obtain ⟨hb1, hb2⟩ := all_app hb12
        have hcc := strip_ok (evA_ok ht c) hb3 (hgd c) hk
        rw [hc] at hcc
        simp only [AV.rel] at hcc
        have hkc : ∀ b, t = b → KeyT (keyOf c b) a := fun b hb t' w' he => by
          cases c <;> simp only [keyOf] at he <;> try cases he
          rw [← hb]
          exact tmp_bool hcc
        have hr := pickA_ok hp (fun htt => pickOne_ok (evA_ok ht x) hb1 (by rw [htt]; rfl) (hgd x) hk (hkc true htt)) (fun htt => pickOne_ok (evA_ok ht y) hb2 htt (hgd y) hk (hkc false htt))
        obtain ⟨dst, op, ty, pos, after, guard⟩ := o
        dsimp only at hop
        subst hop
        intro r n
        refine ⟨fun _ _ => trivial, ?_⟩
        rw [Oper.semAt_eq _ _ _ (fun c h => by cases h)]
        simp only [execOp, hcc, asBool, Sem.run_bind, Sem.run_pure, Result.andThen_ok, Oper.uponIn]
        exact k ρ w _ hr hm (Moves.refl (Nat.le_refl _))
    · cases h
  · cases he : execA P E o (fun x => strip (evA tm x)) m with
    | none => rw [he] at h; cases h
    | some p =>
      obtain ⟨v', mo', bs'⟩ := p
      rw [he] at h
      cases h
      obtain ⟨b1, b2⟩ := all_app hbs
      refine execA_ok hE he (fun x hx => strip_ok (evA_ok ht x) ?_ (hgd x) hk) hm b2 k
      rw [List.all_eq_true] at b1 ⊢
      intro g hg
      exact b1 g (List.mem_flatMap.2 ⟨x, by simpa using hx, hg⟩)
def wantOf : Option (Nat × Bool × Bool) → Bool
  | some (_, _, g) => g
  | none => true
theorem guardA_ok {nx : Nat} {o : Oper} {tm : List AV} {a : Act} {g : Option (Nat × Bool × Bool)} (h : guardA ops tm o.guard = some g) (ht : AV.rels ρ nx tm a.tmps.toList) :
    Region.wanted o (yielded ops a.tmps) = wantOf g ∧ ∀ t w b, g = some (t, w, b) → (b = true ↔ a.tmps[t]? = some (.bool w)) ∧ ∃ j oj, o.guard = some (j, w) ∧ ops[j]? = some oj ∧ oj.dst = some t := by
  unfold guardA at h
  split at h
  · rename_i hg
    cases h
    exact ⟨by simp [Region.wanted, hg, wantOf], fun _ _ _ h => by cases h⟩
  · rename_i j want hg
    split at h
    · rename_i oj hoj
      have hoj' : ops[j]? = some oj := by simpa using hoj
      split at h
      · rename_i t hd
        have hy : yielded ops a.tmps j = match a.tmps[t]? with | some (.bool b) => some b | _ => none := by
          simp [yielded, hoj', hd]
          rfl
        have hrel := evA_ok ht (.tmp t)
        simp only [evA, Act.eval] at hrel
        split at h
        · rename_i b hb
          cases h
          rw [hb] at hrel
          simp only [AV.rel] at hrel
          have hb2 : a.tmps[t]? = some (.bool b) := tmp_bool hrel
          refine ⟨?_, fun t' w' b' e => ?_⟩
          · simp only [Region.wanted, hg, hy, hb2, wantOf]
            cases want <;> cases b <;> rfl
          · cases e
            refine ⟨?_, j, oj, hg, hoj', hd⟩
            rw [hb2]
            cases want <;> cases b <;> simp
        · rename_i _ _ g0 b hb
          cases h
          rw [hb] at hrel
          simp only [AV.rel] at hrel
          cases g0 with
          | true =>
            have hrel := hrel.1 rfl
            have hb2 : a.tmps[t]? = some (.bool b) := tmp_bool hrel
            refine ⟨?_, fun t' w' b' e => ?_⟩
            · simp only [Region.wanted, hg, hy, hb2, wantOf]
              cases want <;> cases b <;> rfl
            · cases e
              refine ⟨?_, j, oj, hg, hoj', hd⟩
              rw [hb2]
              cases want <;> cases b <;> simp
          | false =>
            have hrel := hrel.2 rfl
            have hb3 : ∀ b, a.tmps[t]? ≠ some (.bool b) := fun b hh => by simp [hh, undef] at hrel
            have hb2 : (match a.tmps[t]? with | some (.bool b) => some b | _ => none) = none := by
              cases hq : a.tmps[t]? with
              | none => rfl
              | some u => simp [hq] at hrel; rw [hrel]; rfl
            refine ⟨?_, fun t' w' b' e => ?_⟩
            · simp only [Region.wanted, hg, hy, hb2, wantOf]
              cases want <;> rfl
            · cases e
              refine ⟨?_, j, oj, hg, hoj', hd⟩
              simp [hb3]
        · cases h
      · cases h
    · cases h
/-- One operation of a region, with its guard. -/
theorem stepA_ok {i : Nat} {o : Oper} {tm : List AV} {a : Act} {v : AV} {mo : Option MS} {bs : List Bool} (hE : ESound P E) (hi : ops[i]? = some o) (h : stepA P E ops o tm m = some (v, mo, bs)) (ht : AV.rels ρ m.nx tm a.tmps.toList) (hG : GI tm a) (hm : MRel ρ m w) (hbs : bs.all id = true)
    {K : Act → World → Prop} {Q : Exit → Act → World → Prop} (k : (∀ t w g u, v = .gd t w g u → (g = true ↔ a.tmps[t]? = some (.bool w)) ∧ ∃ j oj, o.guard = some (j, w) ∧ ops[j]? = some oj ∧ oj.dst = some t) → ∀ ρ' w' x, AV.rel ρ' (mo.getD m).nx v x → MRel ρ' (mo.getD m) w' → Moves m.nx ρ ρ' m (mo.getD m) w w' → K (a.put o.dst x) w') : ∀ (r : Option Nat) (n : Nat), wpOpIn (FW r) n P ops Q i K a w := by
  intro r n
  unfold wpOpIn
  simp only [hi]
  unfold stepA at h
  cases hg : guardA ops tm o.guard with
  | none => rw [hg] at h; cases h
  | some g =>
    rw [hg] at h
    obtain ⟨hw, hinfo⟩ := guardA_ok hg ht
    cases g with
    | none =>
      dsimp only at h
      cases hc : coreA P E none o tm m with
      | none => rw [hc] at h; cases h
      | some p =>
        obtain ⟨v', mo', bs'⟩ := p
        rw [hc] at h
        dsimp only at h
        cases hgd : isGd v' with
        | true => rw [hgd] at h; cases h
        | false =>
          rw [hgd] at h
          cases h
          rw [hw]
          exact coreA_ok hE hc ht hG (fun _ _ h => by cases h) hm hbs (k fun t w g u e => by rw [e] at hgd; cases hgd) r n
    | some q =>
      obtain ⟨t, w0, g⟩ := q
      dsimp only at h
      cases hc : coreA P E (some (t, w0)) o tm m with
      | none => rw [hc] at h; cases h
      | some p =>
        obtain ⟨v', mo', bs'⟩ := p
        rw [hc] at h
        cases mo' with
        | some m' =>
          cases g with
          | true =>
            cases h
            rw [hw]
            have k' := k (fun t' w' g' u' e => by cases e; exact hinfo t w0 true rfl)
            have hkt : KeyT (some (t, w0)) a := fun t' w' e => by cases e; exact (hinfo t w0 true rfl).1.1 rfl
            refine coreA_ok hE hc ht hG hkt hm hbs (fun ρ' w' x hx hm' hmv => k' ρ' w' x ?_ hm' hmv) r n
            simp only [AV.rel]
            exact ⟨fun _ => hx, fun h => by cases h⟩
          | false =>
            cases h
            rw [hw]
            have k' := k (fun t' w' g' u' e => by cases e; exact hinfo t w0 false rfl)
            exact ⟨fun _ _ => trivial, k' ρ w undef (by simp [AV.rel]) hm (Moves.refl (Nat.le_refl _))⟩
        | none =>
          cases h
          rw [hw]
          have k' := k (fun t' w' g' u' e => by cases e; exact hinfo t w0 g rfl)
          cases g with
          | true =>
            have hb' : bs'.all id = true := by
              simp only [imps, List.all_map] at hbs
              simpa using hbs
            have hkt : KeyT (some (t, w0)) a := fun t' w' e => by cases e; exact (hinfo t w0 true rfl).1.1 rfl
            refine coreA_ok hE hc ht hG hkt hm hb' (fun ρ' w' x hx hm' hmv => k' ρ' w' x ?_ hm' hmv) r n
            simp only [AV.rel]
            exact ⟨fun _ => hx, fun h => by cases h⟩
          | false =>
            exact ⟨fun _ _ => trivial, k' ρ w undef (by simp [AV.rel]) hm (Moves.refl (Nat.le_refl _))⟩
/-- No two write a guard; it comes ahead. -/
def guardsOk (l : List Oper) : Bool := (List.range l.length).all fun k => match l[k]? with
  | some o => match o.guard with
    | none => true
    | some (j, _) => Nat.blt j k && (match l[j]? with
      | some oj => match oj.dst with
        | some t => (List.range l.length).all fun i => Nat.beq i j || (match l[i]? with
          | some oi => (match oi.dst with | some t' => !Nat.beq t' t | none => true)
          | none => true)
        | none => false
      | none => false)
  | none => false
theorem guardsOk_spec {ops : Array Oper} (h : guardsOk ops.toList = true) {k j t : Nat} {o oj : Oper} {w : Bool} (hk : ops[k]? = some o) (hg : o.guard = some (j, w)) (hj : ops[j]? = some oj) (hd : oj.dst = some t) : j < k ∧ ∀ i oi, i ≠ j → ops[i]? = some oi → oi.dst ≠ some t := by
  have hk' : ops.toList[k]? = some o := by simpa using hk
  have hj' : ops.toList[j]? = some oj := by simpa using hj
  have hlt : k < ops.toList.length := (List.getElem?_eq_some_iff.1 hk').1
  have h1 := List.all_eq_true.1 h k (List.mem_range.2 hlt)
  rw [hk'] at h1
  dsimp only at h1
  rw [hg] at h1
  dsimp only at h1
  rw [hj'] at h1
  dsimp only at h1
  rw [hd] at h1
  simp only [Bool.and_eq_true] at h1
  refine ⟨by simpa [Nat.blt_eq] using h1.1, fun i oi hne hi he => ?_⟩
  have hi' : ops.toList[i]? = some oi := by simpa using hi
  have h2 := List.all_eq_true.1 h1.2 i (List.mem_range.2 (List.getElem?_eq_some_iff.1 hi').1)
  rw [nbeq_ne hne, hi'] at h2
  dsimp only at h2
  rw [he] at h2
  simp at h2
/-- Whence a guarded value comes. -/
def Whence (ops : Array Oper) (done : Nat → Prop) (tm : List AV) : Prop := ∀ (i t : Nat) (w g : Bool) (v : AV), tm[i]? = some (.gd t w g v) → ∃ k o j w' oj, done k ∧ ops[k]? = some o ∧ o.guard = some (j, w') ∧ ops[j]? = some oj ∧ oj.dst = some t
theorem GI.put {tm : List AV} {a : Act} {o : Oper} {k : Nat} {v : AV} {x : Value} {done : Nat → Prop} (hG : GI tm a) (hW : Whence ops done tm) (hok : guardsOk ops.toList = true) (hk : ops[k]? = some o)
    (hdone : ∀ k' o' j w', done k' → ops[k']? = some o' → o'.guard = some (j, w') → j ≠ k) (hv : ∀ t w g u, v = .gd t w g u → (g = true ↔ a.tmps[t]? = some (.bool w)) ∧ ∃ j oj, o.guard = some (j, w) ∧ ops[j]? = some oj ∧ oj.dst = some t) :
    GI (putA tm o.dst v) (a.put o.dst x) ∧ Whence ops (fun n => done n ∨ n = k) (putA tm o.dst v) := by
  have hone : ∀ (i t : Nat) (w g : Bool) (u : AV), (putA tm o.dst v)[i]? = some (AV.gd t w g u) → tm[i]? = some (AV.gd t w g u) ∨ v = AV.gd t w g u := fun i t w g u hi => by
    cases hd : o.dst with
    | none => rw [hd] at hi; simp only [putA] at hi; exact .inl hi
    | some d =>
      rw [hd] at hi
      simp only [putA] at hi
      by_cases e : d = i
      · subst e
        by_cases hl : d < tm.length
        · rw [List.getElem?_set_self hl] at hi; exact .inr (by cases hi; rfl)
        · rw [List.getElem?_eq_none (by simpa using Nat.le_of_not_lt hl)] at hi; cases hi
      · rw [List.getElem?_set_ne e] at hi; exact .inl hi
  have hkeep : ∀ t, o.dst ≠ some t → (a.put o.dst x).tmps[t]? = a.tmps[t]? := fun t ht => by
    cases hd : o.dst with
    | none => rfl
    | some d =>
      simp only [Act.put]
      rw [Array.getElem?_setIfInBounds_ne]
      intro e
      rw [hd, e] at ht
      exact ht rfl
  refine ⟨fun i t w g u hi => ?_, fun i t w g u hi => ?_⟩
  · rcases hone i t w g u hi with h1 | h1
    · obtain ⟨k', o', j, w', oj, hdn, hk', hg', hj, hdt⟩ := hW i t w g u h1
      have hne : o.dst ≠ some t := (guardsOk_spec hok hk' hg' hj hdt).2 k o (Ne.symm (hdone k' o' j w' hdn hk' hg')) hk
      rw [hkeep t hne]
      exact hG i t w g u h1
    · obtain ⟨h2, j, oj, hg, hj, hdt⟩ := hv t w g u h1
      have hsp := guardsOk_spec hok hk hg hj hdt
      have hne : o.dst ≠ some t := hsp.2 k o (by omega) hk
      rw [hkeep t hne]
      exact h2
  · rcases hone i t w g u hi with h1 | h1
    · obtain ⟨k', o', j, w', oj, hdn, h2⟩ := hW i t w g u h1
      exact ⟨k', o', j, w', oj, .inl hdn, h2⟩
    · obtain ⟨_, j, oj, hg, hj, hdt⟩ := hv t w g u h1
      exact ⟨k, o, j, w, oj, .inr rfl, hk, hg, hj, hdt⟩
theorem cleanA_rels {nx : Nat} : ∀ {tm : List AV} {xs : List Value}, AV.rels ρ nx tm xs → AV.rels ρ nx (cleanA tm) xs
  | [], xs, h => by simpa [cleanA] using h
  | b :: r, xs, h => by
    simp only [AV.rels] at h
    obtain ⟨y, ys, rfl, h1, h2⟩ := h
    simp only [cleanA, AV.rels]
    refine ⟨y, ys, rfl, ?_, cleanA_rels h2⟩
    split
    · simp [AV.rel]
    · exact h1
theorem cleanA_noGd : ∀ (tm : List AV), NoGd (cleanA tm)
  | [], i, t, w, g, v, h => by simp [cleanA] at h
  | b :: r, 0, t, w, g, v, h => by
    simp only [cleanA, List.getElem?_cons_zero, Option.some.injEq] at h
    split at h
    · cases h
    · rename_i hb; rw [h] at hb; cases hb
  | b :: r, i + 1, t, w, g, v, h => by
    simp only [cleanA, List.getElem?_cons_succ] at h
    exact cleanA_noGd r i t w g v h
end
def orM (mo : Option MS) (m : MS) : MS := match mo with
  | some m' => m'
  | none => m
/-- In the order of the text. -/
def seqRun (P : Program) (E : Env) (ops : Array Oper) : List Oper → List AV → MS → Option (List AV × MS × List Bool)
  | [], tm, m => some (tm, m, [])
  | o :: r, tm, m => match stepA P E ops o tm m with
    | some (v, mo, bs) => match seqRun P E ops r (putA tm o.dst v) (orM mo m) with
      | some (tm', m', bs') => some (tm', m', bs ++ bs')
      | none => none
    | none => none
def seqA (P : Program) (E : Env) (ops : Array Oper) (tm : List AV) (m : MS) : Option (List AV × MS × List Bool) := match guardsOk ops.toList with
  | true => seqRun P E ops ops.toList tm m
  | false => none
section
variable {P : Program} {E : Env} {ops : Array Oper}
theorem getD_match (mo : Option MS) (m : MS) : orM mo m = mo.getD m := by cases mo <;> rfl
theorem seqRun_ok {B : Nat} (r : Option Nat) (fu : Nat) {Q : Exit → Act → World → Prop} (hE : ESound P E) (hok : guardsOk ops.toList = true) : ∀ (l : List Oper) (n : Nat) (tm : List AV) (m : MS) (ρ : Rho) (a : Act) (w : World) (tm' : List AV) (m' : MS) (bs : List Bool), ops.toList.drop n = l → seqRun P E ops l tm m = some (tm', m', bs) → bs.all id = true → AV.rels ρ m.nx tm a.tmps.toList → GI tm a → Whence ops (· < n) tm → MRel ρ m w → B ≤ m.nx →
    (∀ ρ' a' w', AV.rels ρ' m'.nx tm' a'.tmps.toList → a'.defers = a.defers → MRel ρ' m' w' → Moves B ρ ρ' m m' w w' → Q .normal a' w') → wpOpsIn (FW r) fu P ops Q (List.range' n l.length) a w
  | [], n, tm, m, ρ, a, w, tm', m', bs, hl, h, _, ht, _, _, hm, hB, k => by
    simp only [seqRun, Option.some.injEq, Prod.mk.injEq] at h
    obtain ⟨rfl, rfl, rfl⟩ := h
    exact k ρ a w ht rfl hm (Moves.refl hB)
  | o :: l', n, tm, m, ρ, a, w, tm', m', bs, hl, h, hbs, ht, hG, hW, hm, hB, k => by
    have ho : ops.toList[n]? = some o := by
      have := congrArg (·[0]?) hl
      simpa using this
    have ho' : ops[n]? = some o := by simpa using ho
    simp only [List.length_cons, List.range'_succ]
    rw [wpOpsIn_cons]
    simp only [seqRun] at h
    cases hs : stepA P E ops o tm m with
    | none => rw [hs] at h; cases h
    | some p =>
      obtain ⟨v, mo, b1⟩ := p
      rw [hs] at h
      dsimp only at h
      rw [getD_match] at h
      cases hr : seqRun P E ops l' (putA tm o.dst v) (mo.getD m) with
      | none => rw [hr] at h; cases h
      | some q =>
        obtain ⟨tm2, m2, b2⟩ := q
        rw [hr] at h
        cases h
        obtain ⟨h1, h2⟩ := all_app hbs
        refine stepA_ok hE ho' hs ht hG hm h1 (fun hv ρ1 w1 x hx hm1 hmv => ?_) r fu
        have ht1 : AV.rels ρ1 (mo.getD m).nx tm a.tmps.toList := AV.rels.ext hmv.ext hmv.nx _ _ ht
        obtain ⟨g1, g2⟩ := hG.put (x := x) hW hok ho' (fun k' o' j w' hk' ho1 hg1 hj => by
          have hex : ∃ oj t, ops[j]? = some oj ∧ oj.dst = some t := by
            have hk1 : ops.toList[k']? = some o' := by simpa using ho1
            have := List.all_eq_true.1 hok k' (List.mem_range.2 (List.getElem?_eq_some_iff.1 hk1).1)
            rw [hk1] at this
            dsimp only at this
            rw [hg1] at this
            simp only [Bool.and_eq_true] at this
            cases hoj : ops.toList[j]? with
            | none => rw [hoj] at this; simp at this
            | some oj =>
              rw [hoj] at this
              cases hd : oj.dst with
              | none => simp [hd] at this
              | some t => exact ⟨oj, t, by simpa using hoj, hd⟩
          obtain ⟨oj, t, e1, e2⟩ := hex
          have := (guardsOk_spec hok ho1 hg1 e1 e2).1
          omega) hv
        refine seqRun_ok (B := B) r fu hE hok l' (n + 1) _ _ ρ1 _ w1 _ _ _ ?_ hr h2 (putA_ok ht1 hx) g1 (fun i t w g u hi => ?_) hm1 (Nat.le_trans hB hmv.nx) fun ρ2 a2 w2 t2 d2 g2 mv2 => ?_
        · have := congrArg (List.drop 1) hl
          simpa [Nat.add_comm] using this
        · obtain ⟨k', o', j, w', oj, hdn, hrest⟩ := g2 i t w g u hi
          exact ⟨k', o', j, w', oj, by rcases hdn with h | h <;> omega, hrest⟩
        · refine k ρ2 a2 w2 t2 ?_ g2 ((hmv.base hB).trans mv2)
          rw [d2]
          cases o.dst <;> rfl
theorem seqA_ok {B : Nat} (r : Option Nat) (fu : Nat) {Q : Exit → Act → World → Prop} (hE : ESound P E) {tm : List AV} {m : MS} {ρ : Rho} {a : Act} {w : World} {tm' : List AV} {m' : MS} {bs : List Bool} (h : seqA P E ops tm m = some (tm', m', bs)) (hbs : bs.all id = true) (ht : AV.rels ρ m.nx tm a.tmps.toList) (hn : NoGd tm) (hm : MRel ρ m w) (hB : B ≤ m.nx)
    (k : ∀ ρ' a' w', AV.rels ρ' m'.nx tm' a'.tmps.toList → a'.defers = a.defers → MRel ρ' m' w' → Moves B ρ ρ' m m' w w' → Q .normal a' w') : wpOpsIn (FW r) fu P ops Q (List.range ops.size) a w := by
  unfold seqA at h
  cases hok : guardsOk ops.toList with
  | false => rw [hok] at h; cases h
  | true =>
    rw [hok] at h
    have := seqRun_ok (B := B) (Q := Q) r fu hE hok ops.toList 0 tm m ρ a w tm' m' bs (by simp) h hbs ht (fun i t w g v hi => absurd hi (hn i t w g v)) (fun i t w g v hi => absurd hi (hn i t w g v)) hm hB k
    rw [List.range_eq_range']
    simpa using this
end
end Go.Proofs.YtnkpegdmbocgaaaDoor
