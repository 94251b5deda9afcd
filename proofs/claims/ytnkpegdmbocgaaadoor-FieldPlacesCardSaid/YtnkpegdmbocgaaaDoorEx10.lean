/-
  Regions whose order is open: what is reckoned in the order of the text holds in every order.
-/
import Derived.Test.YtnkpegdmbocgaaaDoorEx9
namespace Go.Proofs.YtnkpegdmbocgaaaDoor
open Go Go.RowKit

/-- What an operation waits for, as bits: through all steps. -/
def maskStep (ms : List Nat) (s : Nat) (e : Edge) : Nat := match Region.binds .any e with
  | true => s ||| 1 <<< e.on ||| ms.getD e.on 0
  | false => s
def maskOf (ms : List Nat) (o : Oper) : Nat := o.after.toList.foldl (maskStep ms) 0
def masks : List Oper → List Nat → List Nat
  | [], acc => acc
  | o :: r, acc => masks r (acc ++ [maskOf acc o])
def bitOf (ms : List Nat) (i j : Nat) : Bool := (ms.getD i 0).testBit j
/-- What listed is closed under. -/
def ClosedL (ops : Array Oper) (listed : Array Bool) : Prop :=
  listed.size = ops.size ∧ ∀ j oj, ops[j]? = some oj → listed.getD j false = true → ∀ e ∈ oj.after, Region.binds .any e = true → listed.getD e.on false = true
theorem ClosedL.set_ {ops : Array Oper} {i : Nat} {listed : Array Bool} (inv : ClosedL ops listed) (hi : i ∈ Region.ready .any ops listed) : ClosedL ops (listed.setIfInBounds i true) := by
  obtain ⟨_, oi, hoi, hall⟩ := mem_ready.1 hi
  refine ⟨by simp [inv.1], fun j oj hj hl e he hb => ?_⟩
  by_cases hij : i = j
  · subst hij
    have : oj = oi := Option.some.inj (hj.symm.trans hoi)
    subst this
    exact getD_set_true (hall e he hb)
  · rw [getD_set_ne false hij] at hl
    exact getD_set_true (inv.2 j oj hj hl e he hb)
theorem maskOf_bit {ms : List Nat} {j : Nat} : ∀ (es : List Edge) (s : Nat), (es.foldl (maskStep ms) s).testBit j = true → s.testBit j = true ∨ ∃ e ∈ es, Region.binds .any e = true ∧ (j = e.on ∨ (ms.getD e.on 0).testBit j = true)
  | [], s, h => .inl h
  | e :: es, s, h => by
    simp only [List.foldl_cons] at h
    rcases maskOf_bit es _ h with h1 | ⟨e', he', h2⟩
    · unfold maskStep at h1
      split at h1
      · rename_i hb
        simp only [Nat.testBit_or, Bool.or_eq_true] at h1
        rcases h1 with (h1 | h1) | h1
        · exact .inl h1
        · refine .inr ⟨e, by simp, hb, .inl ?_⟩
          rw [Nat.one_shiftLeft, Nat.testBit_two_pow] at h1
          exact (of_decide_eq_true h1).symm
        · exact .inr ⟨e, by simp, hb, .inr h1⟩
      · exact .inl h1
    · exact .inr ⟨e', by simp [he'], h2⟩
/-- The masks are right for what is listed. -/
def MasksOk (ops : List Oper) (ms : List Nat) (listed : Array Bool) : Prop :=
  ∀ i o, ops[i]? = some o → i < ms.length → (∀ e ∈ o.after, Region.binds .any e = true → listed.getD e.on false = true) → ∀ j, (ms.getD i 0).testBit j = true → listed.getD j false = true
theorem masks_ok {listed : Array Bool} : ∀ (r pre : List Oper) (acc : List Nat), acc.length = pre.length → ClosedL (pre ++ r).toArray listed → MasksOk (pre ++ r) acc listed → MasksOk (pre ++ r) (masks r acc) listed ∧ (masks r acc).length = (pre ++ r).length
  | [], pre, acc, hl, hc, h => by simpa [masks, hl] using h
  | o :: r, pre, acc, hl, hc, h => by
    have e : pre ++ o :: r = (pre ++ [o]) ++ r := by simp
    have hstep : MasksOk (pre ++ o :: r) (acc ++ [maskOf acc o]) listed := fun i oi hi hlt hall j hj => by
      by_cases hia : i < acc.length
      · refine h i oi hi hia hall j ?_
        simpa [List.getD_eq_getElem?_getD, List.getElem?_append_left hia] using hj
      · have hie : i = acc.length := by simp at hlt; omega
        subst hie
        have ho : oi = o := by
          rw [hl] at hi
          simp at hi
          exact hi.symm
        subst ho
        have hj' : (maskOf acc oi).testBit j = true := by simpa [List.getD_eq_getElem?_getD] using hj
        rcases maskOf_bit _ _ hj' with h1 | ⟨e1, he1, hb1, h2⟩
        · simp at h1
        · have hon := hall e1 (by simpa using he1) hb1
          rcases h2 with rfl | h2
          · exact hon
          · have hlt2 : e1.on < acc.length := by
              rcases Nat.lt_or_ge e1.on acc.length with h' | h'
              · exact h'
              · simp [List.getElem?_eq_none h'] at h2
            have hoo : ∃ o2, (pre ++ oi :: r)[e1.on]? = some o2 := ⟨_, List.getElem?_eq_getElem (by simp; omega)⟩
            obtain ⟨o2, ho2⟩ := hoo
            exact h e1.on o2 ho2 hlt2 (fun e he hb => hc.2 e1.on o2 (by simpa using ho2) hon e he hb) j h2
    have := masks_ok r (pre ++ [o]) (acc ++ [maskOf acc o]) (by simp [hl]) (by rw [← e]; exact hc) (by rw [← e]; exact hstep)
    rw [e]
    exact this
theorem masks_listed {ops : Array Oper} {listed : Array Bool} (hc : ClosedL ops listed) : MasksOk ops.toList (masks ops.toList []) listed := by
  have := (masks_ok (listed := listed) ops.toList [] [] rfl (by simpa using hc) (fun i o _ h => by simp at h)).1
  simpa using this

/-- Operations for which memory is nothing. -/
def pureB (o : Oper) : Bool := match o.op with
  | .move _ => true
  | .assign _ => true
  | .pick .. => true
  | .build .. => true
  | .nilCheck _ => true
  | .binOp .. => true
  | .unOp .. => true
  | .fieldAddr .. => true
  | .field .. => true
  | .indexAddr .. => true
  | .index .. => true
  | .extract .. => true
  | .slice .. => true
  | _ => false
section
variable {P : Program} {E : Env} {ops : Array Oper}
theorem pure_any {o : Oper} {tm : List AV} (h : pureB o = true) (m m' : MS) : stepA P E ops o tm m = stepA P E ops o tm m' := by
  have : ∀ key, coreA P E key o tm m = coreA P E key o tm m' := fun key => by
    obtain ⟨dst, op, ty, pos, after, guard⟩ := o
    cases op <;> simp only [pureB, Bool.false_eq_true] at h <;> rfl
  unfold stepA
  simp only [this]
theorem pure_none {o : Oper} {tm : List AV} {m : MS} {v : AV} {mo : Option MS} {bs : List Bool} (h : pureB o = true) (hs : stepA P E ops o tm m = some (v, mo, bs)) : mo = none := by
  have key : ∀ ky v mo bs, coreA P E ky o tm m = some (v, mo, bs) → mo = none := fun ky v mo bs hc => by
    obtain ⟨dst, op, ty, pos, after, guard⟩ := o
    unfold coreA at hc
    cases op <;> simp only [pureB, Bool.false_eq_true] at h <;> dsimp only [execA, pure1, pure2] at hc
    all_goals (repeat' (split at hc))
    all_goals first
      | (cases hc; done)
      | (cases hc; rfl)
      | (rename_i he; cases hc; (repeat' (split at he)) <;> first | (cases he; done) | (cases he; rfl))
  unfold stepA at hs
  split at hs
  · cases hs
  · split at hs
    · rename_i h1
      split at hs
      · cases hs
      · cases hs; exact key _ _ _ _ h1
    · cases hs
  · split at hs
    · rename_i h1; cases hs; rfl
    · rename_i h1; have := key _ _ _ _ h1; cases this
    · cases hs
theorem map_congr_mem {α β : Type} {f g : α → β} : ∀ l : List α, (∀ x, x ∈ l → f x = g x) → l.map f = l.map g
  | [], _ => rfl
  | x :: l, h => by simp only [List.map_cons]; rw [h x (by simp), map_congr_mem l (fun y hy => h y (by simp [hy]))]
theorem execA_congr {o : Oper} {ev ev' : Operand → AV} {m : MS} (h : ∀ x, x ∈ o.op.operands → ev x = ev' x) : execA P E o ev m = execA P E o ev' m := by
  obtain ⟨dst, op, ty, pos, after, guard⟩ := o
  cases op <;> dsimp only [execA] <;> simp only [Op.operands] at h
  case call c =>
    have ha : c.args.toList.map ev = c.args.toList.map ev' := map_congr_mem _ fun x hx => h x (by simp [Call.operands]; exact .inr (by simpa using hx))
    rw [ha]
    cases hc : c.callee with
    | value f => dsimp only; rw [h f (by simp [Call.operands, hc])]
    | invoke r n => rfl
    | builtin b => rfl
  case build t ps =>
    have : (ps.toList.map fun p => (p.1, ev p.2)) = (ps.toList.map fun p => (p.1, ev' p.2)) := map_congr_mem _ fun p hp => by
      rw [h p.2 (by simp; exact ⟨p.1, by simpa using hp⟩)]
    rw [this]
  case buildSlice t n ps =>
    have : (ps.toList.map fun p => (p.1, ev p.2)) = (ps.toList.map fun p => (p.1, ev' p.2)) := map_congr_mem _ fun p hp => by
      rw [h p.2 (by simp; exact ⟨p.1, by simpa using hp⟩)]
    rw [this]
  case slice t x lo hi mx => cases lo <;> cases hi <;> cases mx <;> simp_all
  case makeFunc fn fs cs =>
    rw [map_congr_mem fs.toList (f := ev) (g := ev') (fun x hx => h x (by simp; exact .inl (by simpa using hx))), map_congr_mem cs.toList (f := ev) (g := ev') (fun x hx => h x (by simp; exact .inr (by simpa using hx)))]
  all_goals first
    | rfl
    | (simp_all; done)
theorem evA_congr {tm tm' : List AV} {x : Operand} (h : ∀ t, x = .tmp t → tm.getD t .unk = tm'.getD t .unk) : evA tm x = evA tm' x := by
  cases x with
  | tmp t => exact h t rfl
  | _ => rfl
theorem looks_op {o : Oper} {x : Operand} {t : Tmp} (hx : x ∈ o.op.operands) (ht : x = .tmp t) : t ∈ o.looksAt ops := by
  subst ht
  exact List.mem_append_left _ (List.mem_filterMap.2 ⟨.tmp t, by simpa using hx, rfl⟩)
theorem coreA_congr {key : Key} {o : Oper} {tm tm' : List AV} {m : MS} (h : ∀ t, t ∈ o.looksAt ops → tm.getD t .unk = tm'.getD t .unk) : coreA P E key o tm m = coreA P E key o tm' m := by
  have hev : ∀ x, x ∈ o.op.operands → evA tm x = evA tm' x := fun x hx => evA_congr fun t ht => h t (looks_op hx ht)
  unfold coreA
  split
  · rename_i c a b hop
    have hm : ∀ x, x = c ∨ x = a ∨ x = b → x ∈ o.op.operands := fun x hx => by rw [hop]; simp [Op.operands]; exact hx
    rw [hev c (hm c (.inl rfl)), hev a (hm a (.inr (.inl rfl))), hev b (hm b (.inr (.inr rfl)))]
  · rw [execA_congr (ev' := fun x => strip (evA tm' x)) (fun x hx => by rw [hev x hx])]
    have : (o.op.operands.toList.flatMap fun x => gdOf key (evA tm x)) = (o.op.operands.toList.flatMap fun x => gdOf key (evA tm' x)) := by
      have hh : ∀ l : List Operand, (∀ x, x ∈ l → evA tm x = evA tm' x) → (l.flatMap fun x => gdOf key (evA tm x)) = (l.flatMap fun x => gdOf key (evA tm' x)) := fun l => by
        induction l with
        | nil => intro _; rfl
        | cons x l ih => intro hl; simp only [List.flatMap_cons]; rw [hl x (by simp), ih (fun y hy => hl y (by simp [hy]))]
      exact hh _ fun x hx => hev x (by simpa using hx)
    rw [this]
theorem stepA_congr {o : Oper} {tm tm' : List AV} {m : MS} (h : ∀ t, t ∈ o.looksAt ops → tm.getD t .unk = tm'.getD t .unk) : stepA P E ops o tm m = stepA P E ops o tm' m := by
  have hg : guardA ops tm o.guard = guardA ops tm' o.guard := by
    unfold guardA
    cases hg : o.guard with
    | none => rfl
    | some p =>
      obtain ⟨j, want⟩ := p
      dsimp only
      cases hj : ops.toList[j]? with
      | none => rfl
      | some oj =>
        dsimp only
        cases hd : oj.dst with
        | none => rfl
        | some t =>
          dsimp only
          have : ops[j]? = some oj := by simpa using hj
          rw [h t (List.mem_append_right _ (by simp [hg, this, hd]))]
  unfold stepA
  rw [hg]
  simp only [coreA_congr h]
end
/-- What is in the variables behind those operations that 'sel' picks, of the first k. -/
def TS (d : Nat → Option Tmp) (v : Nat → AV) (tm : List AV) (sel : Nat → Bool) : Nat → List AV
  | 0 => tm
  | k + 1 => if sel k then putA (TS d v tm sel k) (d k) (v k) else TS d v tm sel k
def MSel (mo : Nat → Option MS) (m : MS) (sel : Nat → Bool) : Nat → MS
  | 0 => m
  | k + 1 => if sel k then (mo k).getD (MSel mo m sel k) else MSel mo m sel k
section
variable {d : Nat → Option Tmp} {v : Nat → AV} {mo : Nat → Option MS} {tm : List AV} {m : MS} {sel sel' : Nat → Bool}
theorem putA_len (tm : List AV) (d : Option Tmp) (v : AV) : (putA tm d v).length = tm.length := by cases d <;> simp [putA]
theorem TS_len : ∀ k, (TS d v tm sel k).length = tm.length
  | 0 => rfl
  | k + 1 => by
    simp only [TS]
    split
    · rw [putA_len, TS_len k]
    · exact TS_len k
theorem putA_getD (tm : List AV) (d : Option Tmp) (v : AV) (t : Tmp) : (putA tm d v).getD t .unk = if d = some t ∧ t < tm.length then v else tm.getD t .unk := by
  cases d with
  | none => simp [putA]
  | some d =>
    simp only [putA, List.getD_eq_getElem?_getD]
    by_cases h : d = t
    · subst h
      by_cases hl : d < tm.length
      · simp [hl]
      · simp [hl]
    · rw [List.getElem?_set_ne h, if_neg (by simp [h])]
theorem TS_same {t : Tmp} : ∀ k, (∀ j, j < k → d j = some t → sel j = sel' j) → (TS d v tm sel k).getD t .unk = (TS d v tm sel' k).getD t .unk
  | 0, _ => rfl
  | k + 1, h => by
    have ih := TS_same k fun j hj => h j (by omega)
    have hl := TS_len (d := d) (v := v) (tm := tm) (sel := sel) k
    have hl' := TS_len (d := d) (v := v) (tm := tm) (sel := sel') k
    simp only [TS]
    by_cases hd : d k = some t
    · rw [h k (by omega) hd]
      split
      · rw [putA_getD, putA_getD, hl, hl', ih]
      · exact ih
    · have e : ∀ s : Nat → Bool, (if s k then putA (TS d v tm s k) (d k) (v k) else TS d v tm s k).getD t .unk = (TS d v tm s k).getD t .unk := fun s => by
        split
        · rw [putA_getD, if_neg (fun h => hd h.1)]
        · rfl
      rw [e, e, ih]
theorem TS_last {t : Tmp} {i : Nat} (hs : sel i = true) (hd : d i = some t) : ∀ k, i < k → (∀ j, i < j → j < k → d j = some t → sel j = false) → (TS d v tm sel k).getD t .unk = if t < tm.length then v i else AV.unk
  | 0, h, _ => by omega
  | k + 1, h, hj => by
    simp only [TS]
    by_cases hik : i = k
    · subst hik
      rw [if_pos hs, putA_getD, TS_len]
      by_cases hl : t < tm.length
      · simp [hd, hl]
      · rw [if_neg (fun h => hl h.2), if_neg hl]
        have hle : (TS d v tm sel i).length ≤ t := by rw [TS_len]; exact Nat.le_of_not_lt hl
        simp [List.getD_eq_getElem?_getD, List.getElem?_eq_none hle]
    · have ih := TS_last (t := t) hs hd k (by omega) fun j h1 h2 => hj j h1 (by omega)
      split
      · rename_i hsk
        have hne : d k ≠ some t := fun e => by have := hj k (by omega) (by omega) e; rw [this] at hsk; cases hsk
        rw [putA_getD, if_neg (fun h => hne h.1), ih]
      · exact ih
theorem MSel_same : ∀ k, (∀ j, j < k → (mo j).isSome = true → sel j = sel' j) → MSel mo m sel k = MSel mo m sel' k
  | 0, _ => rfl
  | k + 1, h => by
    have ih := MSel_same k fun j hj => h j (by omega)
    simp only [MSel]
    cases hm : mo k with
    | none => simp [ih]
    | some m' =>
      rw [h k (by omega) (by simp [hm]), ih]
theorem MSel_last {i : Nat} {m' : MS} (hs : sel i = true) (hm : mo i = some m') : ∀ k, i < k → (∀ j, i < j → j < k → (mo j).isSome = true → sel j = false) → MSel mo m sel k = m'
  | 0, h, _ => by omega
  | k + 1, h, hj => by
    simp only [MSel]
    by_cases hik : i = k
    · subst hik
      rw [if_pos hs, hm]; rfl
    · have ih := MSel_last hs hm k (by omega) fun j h1 h2 => hj j h1 (by omega)
      split
      · rename_i hsk
        cases hmk : mo k with
        | none => simpa using ih
        | some m2 =>
          have := hj k (by omega) (by omega) (by simp [hmk])
          rw [this] at hsk; cases hsk
      · exact ih
theorem ext_getD {l l' : List AV} (hl : l.length = l'.length) (h : ∀ t, l.getD t .unk = l'.getD t .unk) : l = l' := by
  apply List.ext_getElem hl
  intro i h1 h2
  have := h i
  simpa [List.getD_eq_getElem?_getD, h1, h2] using this
end
end Go.Proofs.YtnkpegdmbocgaaaDoor
