/-
  Worlds that come later, and regions that draw their order: one walk serves every order, calls that make memory and new variables among the operations.
-/
import Derived.Deep.Quiet
import Derived.Deep.QuietTactic
import Derived.StillTail
import Derived.WalkKit
import Derived.Lib.Hide
namespace Go.Proofs.YtnkpegdmbocgaaaDoor
open Go Go.RowKit

/-- A world behind 'w' in which all that was there is as it was. -/
structure After (w : World) where
  at_ : World
  below : Below w.heap.size w at_
instance after_some (w : World) : Nonempty (After w) := ⟨⟨w, Below.refl _ _⟩⟩
theorem After.cell {w : World} (x : After w) (a : Addr) (h : a.block < w.heap.size) : x.at_.cell? a = w.cell? a := x.below.cell h
theorem After.frozen {w : World} (x : After w) (a : Addr) (h : a.block < w.heap.size) : x.at_.frozen? a = w.frozen? a := x.below.frozen h
theorem After.block {w : World} (x : After w) (b : Nat) (h : b < w.heap.size) : x.at_.heap[b]? = w.heap[b]? := x.below.block b h
def After.later {w : World} (x : After w) {w' : World} (h : Below x.at_.heap.size x.at_ w') : After w := ⟨w', x.below.trans (h.mono x.below.size)⟩

def Stable (F : World → Prop) : Prop := ∀ w w' : World, Below w.heap.size w w' → F w → F w'
theorem stable_true : Stable (fun _ => True) := fun _ _ _ _ => trivial
theorem stable_blk {F : World → Prop} (h : Stable F) (b : Nat) (o : Obj) : Stable (fun w => F w ∧ w.heap[b]? = some o) := fun w w' hb ⟨hf, ho⟩ => by
  refine ⟨h w w' hb hf, ?_⟩
  rw [hb.block b ?_]
  · exact ho
  · rcases Nat.lt_or_ge b w.heap.size with hlt | hge
    · exact hlt
    · rw [Array.getElem?_eq_none hge] at ho; cases ho

section
variable {P : Program} {ops : Array Oper} {md : Region.Mode} {w0 : World}

def calmUpon (P : Program) (w : World) (v : Value) : Result Next → Prop
  | .ok (.value u) w' => w' = w ∧ u = v
  | .ok .skip w' => w' = w ∧ v = undef
  | .ok (.enter f args) w' => w' = w ∧ Calls P f args w (fun e w'' => e = .returned v ∧ Below w.heap.size w w'')
  | _ => False
def calmAt (P : Program) (o : Oper) (a : Act) (w : World) (v : Value) : Prop := calmUpon P w v ((execOp a.eval o).run P w)
/-- One value, in every world behind w0; a call leaves what was there. -/
def calm (P : Program) (o : Oper) (a : Act) (w0 : World) (next : Act → Prop) : Prop := ∃ v, (∀ x : After w0, calmAt P o a x.at_ v) ∧ next (a.put o.dst v)

def wpCalm (P : Program) (ops : Array Oper) (w0 : World) (Q : Act → Prop) : List Oper → Act → Prop
  | [], a => Q a
  | o :: rest, a => if Region.wanted o (yielded ops a.tmps) then calm P o a w0 (wpCalm P ops w0 Q rest) else wpCalm P ops w0 Q rest (a.put o.dst undef)
theorem wpCalm_nil {Q : Act → Prop} {a : Act} (h : Q a) : wpCalm P ops w0 Q [] a := h
theorem wpCalm_step {Q : Act → Prop} {a : Act} {o : Oper} {rest : List Oper}
    (h : ∀ K : Act → Prop, (∀ a, wpCalm P ops w0 Q rest a → K a) → if Region.wanted o (yielded ops a.tmps) then calm P o a w0 K else K (a.put o.dst undef)) : wpCalm P ops w0 Q (o :: rest) a :=
  h _ (fun _ h => h)

def freshOp (o : Oper) : Bool := match o.op with
  | .alloc _ => true
  | .box _ _ => true
  | _ => false
def freshAt (P : Program) (o : Oper) (a : Act) (w0 : World) (obj : Obj) : Prop :=
  ∀ x : After w0, (execOp a.eval o).run P x.at_ = .ok (.value (.pointer (some ⟨x.at_.heap.size, 0, none⟩))) (x.at_.alloc obj)

/-- Operations that hand a value on, whatever the world. -/
def handsB (o : Oper) : Bool := match o.op with
  | .extract _ _ => true
  | .move _ => true
  | .assign _ => true
  | _ => false
theorem hands_all {o : Oper} {a : Act} {w : World} {v : Value} (ho : handsB o = true) (h : calmAt P o a w v) : ∀ w', (execOp a.eval o).run P w' = .ok (.value v) w' := by
  obtain ⟨dst, op, ty, pos, after, guard⟩ := o
  cases op <;> simp only [handsB, Bool.false_eq_true] at ho
  case move x =>
    intro w'
    have h1 : ∀ w : World, (execOp a.eval ⟨dst, .move x, ty, pos, after, guard⟩).run P w = .ok (.value (a.eval x)) w := fun w => rfl
    unfold calmAt at h
    rw [h1] at h ⊢
    rw [h.2]
  case assign x =>
    intro w'
    have h1 : ∀ w : World, (execOp a.eval ⟨dst, .assign x, ty, pos, after, guard⟩).run P w = .ok (.value (a.eval x)) w := fun w => rfl
    unfold calmAt at h
    rw [h1] at h ⊢
    rw [h.2]
  case extract x i =>
    intro w'
    unfold calmAt at h
    simp only [execOp, Instr.extract] at h ⊢
    generalize a.eval x = y at *
    cases y <;> simp [calmUpon] at h ⊢
    rename_i vs
    generalize vs[i]? = z at *
    cases z <;> simp at h ⊢
    exact h

def preOp (P : Program) (ops : Array Oper) (w0 : World) (i : Nat) (K : Act → Prop) (a : Act) : Prop :=
  match ops[i]? with
  | none => K a
  | some o => if Region.wanted o (yielded ops a.tmps) then calm P o a w0 K else K (a.put o.dst undef)
def newOp (P : Program) (ops : Array Oper) (w0 : World) (o : Oper) (K : Act → (World → Prop) → Prop) (a : Act) (F : World → Prop) : Prop :=
  if Region.wanted o (yielded ops a.tmps) then
    ∃ obj, freshAt P o a w0 obj ∧ ∀ b, w0.heap.size ≤ b → K (a.put o.dst (.pointer (some ⟨b, 0, none⟩))) (fun w => F w ∧ w.heap[b]? = some obj)
  else K (a.put o.dst undef) F
def newOpAt (P : Program) (ops : Array Oper) (w0 : World) (i : Nat) (K : Act → (World → Prop) → Prop) (a : Act) (F : World → Prop) : Prop :=
  match ops[i]? with
  | none => K a F
  | some o => newOp P ops w0 o K a F
def isFresh (ops : Array Oper) (i : Nat) : Bool := match ops[i]? with
  | some o => freshOp o
  | none => false

theorem calm_mono {o : Oper} {a : Act} {K K' : Act → Prop} (h : ∀ a, K a → K' a) (hh : calm P o a w0 K) : calm P o a w0 K' :=
  let ⟨v, h1, h2⟩ := hh
  ⟨v, h1, h _ h2⟩
theorem preOp_mono {i : Nat} {a : Act} {K K' : Act → Prop} (h : ∀ a, K a → K' a) (hh : preOp P ops w0 i K a) : preOp P ops w0 i K' a := by
  unfold preOp at *
  split
  · exact h _ (by simpa [*] using hh)
  · rename_i o ho
    simp only [ho] at hh
    split
    · rename_i hw; simp only [hw, if_true] at hh; exact calm_mono h hh
    · rename_i hw; simp only [hw] at hh; exact h _ hh
theorem newOp_mono {o : Oper} {a : Act} {F : World → Prop} {K K' : Act → (World → Prop) → Prop} (h : ∀ a F, K a F → K' a F) (hh : newOp P ops w0 o K a F) : newOp P ops w0 o K' a F := by
  unfold newOp at *
  split
  · rename_i hw; simp only [hw, if_true] at hh
    obtain ⟨obj, h1, h2⟩ := hh
    exact ⟨obj, h1, fun b hb => h _ _ (h2 b hb)⟩
  · rename_i hw; simp only [hw] at hh; exact h _ _ hh

/-- Whatever order is picked from here on; 'p' says which operations are calm. -/
def anyC (P : Program) (md : Region.Mode) (ops : Array Oper) (w0 : World) (p : List Nat) (Q : Exit → Act → World → Prop) : Nat → Array Bool → Act → (World → Prop) → Prop
  | 0, listed, a, F => Region.ready md ops listed = [] ∧ ∀ x : After w0, F x.at_ → Q .normal a x.at_
  | f + 1, listed, a, F =>
    (Region.ready md ops listed = [] → ∀ x : After w0, F x.at_ → Q .normal a x.at_) ∧
    ∀ j ∈ Region.ready md ops listed,
      if p.contains j then preOp P ops w0 j (fun a' => anyC P md ops w0 p Q f (listed.setIfInBounds j true) a' F) a
      else if isFresh ops j then newOpAt P ops w0 j (anyC P md ops w0 p Q f (listed.setIfInBounds j true)) a F
      else ∀ x : After w0, F x.at_ → wpOp P ops Q j (wpAny P md ops Q f (listed.setIfInBounds j true)) a x.at_

theorem wpAny_of_anyC {p : List Nat} {Q : Exit → Act → World → Prop} : ∀ (f : Nat) (listed : Array Bool) (a : Act) (F : World → Prop), Stable F → anyC P md ops w0 p Q f listed a F →
    ∀ x : After w0, F x.at_ → wpAny P md ops Q f listed a x.at_
  | 0, _, _, _, _, h, x, hx => ⟨h.1, h.2 x hx⟩
  | f + 1, listed, a, F, hF, h, x, hx => by
    refine ⟨fun h0 => h.1 h0 x hx, fun j hj => ?_⟩
    have hj' := h.2 j hj
    by_cases hp : p.contains j = true
    · rw [if_pos hp] at hj'
      unfold preOp at hj'
      unfold wpOp
      cases ho : ops[j]? with
      | none => simp only [ho] at hj' ⊢; exact wpAny_of_anyC f _ _ _ hF hj' x hx
      | some o =>
        simp only [ho] at hj' ⊢
        split
        · rename_i hw
          simp only [hw, if_true] at hj'
          obtain ⟨v, h1, h2⟩ := hj'
          have h3 := h1 x
          unfold calmAt at h3
          refine .inl ?_
          unfold Oper.wp
          generalize (execOp a.eval o).run P x.at_ = r at *
          cases r with
          | ok n w' =>
            cases n <;> simp only [calmUpon] at h3 <;> simp only [Oper.upon]
            case value u =>
              obtain ⟨e1, e2⟩ := h3
              rw [e1, e2]
              exact wpAny_of_anyC f _ _ _ hF h2 x hx
            case skip =>
              obtain ⟨e1, e2⟩ := h3
              rw [e1, ← e2]
              exact wpAny_of_anyC f _ _ _ hF h2 x hx
            case enter fn args =>
              obtain ⟨e1, hc⟩ := h3
              rw [e1]
              exact hc.mono fun e w'' ⟨he, hw''⟩ => by
                subst he
                exact wpAny_of_anyC f _ _ _ hF h2 (x.later hw'') (hF _ _ hw'' hx)
          | halt y w' => simp only [calmUpon] at h3
        · rename_i hw
          simp only [hw] at hj'
          exact wpAny_of_anyC f _ _ _ hF hj' x hx
    · rw [if_neg hp] at hj'
      by_cases hf : isFresh ops j = true
      · rw [if_pos hf] at hj'
        unfold newOpAt newOp at hj'
        unfold wpOp
        cases ho : ops[j]? with
        | none => simp only [ho] at hj' ⊢; exact wpAny_of_anyC f _ _ _ hF hj' x hx
        | some o =>
          simp only [ho] at hj' ⊢
          split
          · rename_i hw
            simp only [hw, if_true] at hj'
            obtain ⟨obj, h1, h2⟩ := hj'
            refine .inl ?_
            unfold Oper.wp
            rw [h1 x]
            simp only [Oper.upon]
            have hbl : Below x.at_.heap.size x.at_ (x.at_.alloc obj) := (Below.refl _ _).alloc (Nat.le_refl _) _
            exact wpAny_of_anyC f _ _ _ (stable_blk hF _ _) (h2 x.at_.heap.size x.below.size) (x.later hbl) ⟨hF _ _ hbl hx, heap_alloc_new x.at_ _⟩
          · rename_i hw
            simp only [hw] at hj'
            exact wpAny_of_anyC f _ _ _ hF hj' x hx
      · rw [if_neg hf] at hj'
        exact hj' x hx

def YieldsC (P : Program) (ops : Array Oper) (w0 : World) (o : Oper) (v : Value) (a : Act) : Prop :=
  (Region.wanted o (yielded ops a.tmps) = true ∧ ∀ x : After w0, calmAt P o a x.at_ v) ∨ (Region.wanted o (yielded ops a.tmps) = false ∧ v = undef)
theorem YieldsC.preOp {i : Nat} {o : Oper} {v : Value} {a : Act} (hi : ops[i]? = some o) (hy : YieldsC P ops w0 o v a) {K : Act → Prop} (h : K (a.put o.dst v)) : preOp P ops w0 i K a := by
  unfold Go.Proofs.YtnkpegdmbocgaaaDoor.preOp
  simp only [hi]
  rcases hy with ⟨hw, hv⟩ | ⟨hw, rfl⟩
  · simp only [hw, if_true]; exact ⟨v, hv, h⟩
  · simp only [hw, Bool.false_eq_true, if_false]; exact h
theorem YieldsC.of_same {o : Oper} {v : Value} {a a' : Act} (hy : YieldsC P ops w0 o v a) (he : execOp a'.eval o = execOp a.eval o)
    (hw : Region.wanted o (yielded ops a'.tmps) = Region.wanted o (yielded ops a.tmps)) : YieldsC P ops w0 o v a' := by
  unfold YieldsC calmAt at *
  rw [he, hw]
  exact hy
theorem yieldsC_of_preOp {i : Nat} {o : Oper} {a : Act} {K : Act → Prop} (hi : ops[i]? = some o) (h : preOp P ops w0 i K a) : ∃ v, YieldsC P ops w0 o v a ∧ K (a.put o.dst v) := by
  unfold preOp at h
  simp only [hi] at h
  by_cases hw : Region.wanted o (yielded ops a.tmps) = true
  · simp only [hw, if_true] at h
    obtain ⟨v, h1, h2⟩ := h
    exact ⟨v, .inl ⟨hw, h1⟩, h2⟩
  · simp only [hw] at h
    exact ⟨undef, .inr ⟨by simpa using hw, rfl⟩, h⟩

theorem preOp_put {j : Nat} {oi oj : Oper} {v : Value} (hj : ops[j]? = some oj) (hap : oi.apart ops oj = true)
    (hsi : ∀ cs b, oi.op ≠ .select cs b) (hsj : ∀ cs b, oj.op ≠ .select cs b) {K : Act → Prop} {a : Act}
    (hy : YieldsC P ops w0 oi v a) (h : preOp P ops w0 j K (a.put oi.dst v)) :
    preOp P ops w0 j (fun a' => YieldsC P ops w0 oi v a' ∧ K (a'.put oi.dst v)) a := by
  obtain ⟨h1, h2, h3⟩ := Oper.apart_spec hap
  have keep : ∀ (a : Act), YieldsC P ops w0 oi v a → ∀ u, YieldsC P ops w0 oi v (a.put oj.dst u) := fun a hy u =>
    hy.of_same (execOp_put oi hsi a oj.dst u h3) (wanted_put oi a oj.dst u h3)
  unfold preOp at *
  simp only [hj] at *
  rw [wanted_put oj a oi.dst v h1] at h
  split
  · rename_i hw
    simp only [hw, if_true] at h
    obtain ⟨u, hu, hn⟩ := h
    refine ⟨u, fun x => ?_, keep a hy u, by rw [← Act.put_comm a v u h2]; exact hn⟩
    have := hu x
    unfold calmAt at *
    rwa [execOp_put oj hsj a oi.dst v h1] at this
  · rename_i hw
    simp only [hw] at h
    exact ⟨keep a hy _, by rw [← Act.put_comm a v undef h2]; exact h⟩

theorem newOp_put {oi oj : Oper} {v : Value} (hap : oi.apart ops oj = true)
    (hsi : ∀ cs b, oi.op ≠ .select cs b) (hsj : ∀ cs b, oj.op ≠ .select cs b) {K : Act → (World → Prop) → Prop} {a : Act} {F : World → Prop}
    (hy : YieldsC P ops w0 oi v a) (h : newOp P ops w0 oj K (a.put oi.dst v) F) :
    newOp P ops w0 oj (fun a' F' => YieldsC P ops w0 oi v a' ∧ K (a'.put oi.dst v) F') a F := by
  obtain ⟨h1, h2, h3⟩ := Oper.apart_spec hap
  have keep : ∀ (a : Act), YieldsC P ops w0 oi v a → ∀ u, YieldsC P ops w0 oi v (a.put oj.dst u) := fun a hy u =>
    hy.of_same (execOp_put oi hsi a oj.dst u h3) (wanted_put oi a oj.dst u h3)
  unfold newOp at *
  rw [wanted_put oj a oi.dst v h1] at h
  split
  · rename_i hw
    simp only [hw, if_true] at h
    obtain ⟨obj, ho, hn⟩ := h
    refine ⟨obj, fun x => ?_, fun b hb => ⟨keep a hy _, by rw [← Act.put_comm a v _ h2]; exact hn b hb⟩⟩
    have := ho x
    rwa [execOp_put oj hsj a oi.dst v h1] at this
  · rename_i hw
    simp only [hw] at h
    exact ⟨keep a hy _, by rw [← Act.put_comm a v undef h2]; exact h⟩

/-- What is listed is closed under 'waits for'. -/
def Closed (md : Region.Mode) (ops : Array Oper) (listed : Array Bool) : Prop :=
  listed.size = ops.size ∧ ∀ j oj, ops[j]? = some oj → listed.getD j false = true → ∀ e ∈ oj.after, Region.binds md e = true → listed.getD e.on false = true
theorem Closed.set_ {i : Nat} {listed : Array Bool} (inv : Closed md ops listed) (hi : i ∈ Region.ready md ops listed) : Closed md ops (listed.setIfInBounds i true) := by
  obtain ⟨_, oi, hoi, hall⟩ := mem_ready.1 hi
  refine ⟨by simp [inv.1], fun j oj hj hl e he hb => ?_⟩
  by_cases hij : i = j
  · subst hij
    have : oj = oi := Option.some.inj (hj.symm.trans hoi)
    subst this
    exact getD_set_true (hall e he hb)
  · rw [getD_set_ne false hij] at hl
    exact getD_set_true (inv.2 j oj hj hl e he hb)

/-- 's' waits, by steps, for 'i'. -/
def reach (md : Region.Mode) (ops : Array Oper) (s : Nat) : Nat → Nat → Bool
  | 0, _ => false
  | f + 1, i => (List.range ops.size).any fun j => Region.waitsFor md ops j i && (decide (j = s) || reach md ops s f j)
theorem reach_spec {s : Nat} {listed : Array Bool} (inv : Closed md ops listed) (hsr : s ∈ Region.ready md ops listed) :
    ∀ (f i : Nat), reach md ops s f i = true → listed.getD i true = true := by
  intro f
  induction f with
  | zero => intro i h; cases h
  | succ f ih =>
    intro i h
    obtain ⟨j, hj, hj2⟩ := List.any_eq_true.1 h
    have hjs : j < ops.size := List.mem_range.1 hj
    simp only [Bool.and_eq_true, Bool.or_eq_true, decide_eq_true_eq] at hj2
    obtain ⟨hw, hr⟩ := hj2
    obtain ⟨oj, hoj, e, he, hb, hon⟩ := Region.waitsFor_spec hw
    have fin : listed.getD i false = true → listed.getD i true = true := fun h => by
      rcases Nat.lt_or_ge i listed.size with h' | h'
      · simp [h'] at h ⊢; exact h
      · simp [Array.getElem?_eq_none h']
    rcases hr with rfl | hr
    · obtain ⟨_, os, hos, hall⟩ := mem_ready.1 hsr
      have : os = oj := Option.some.inj (hos.symm.trans hoj)
      subst this
      have := hall e he hb
      rw [hon] at this
      exact fin this
    · have h2 := ih j hr
      have hjl : j < listed.size := by rw [inv.1]; exact hjs
      have h3 : listed.getD j false = true := by simp [hjl] at h2 ⊢; exact h2
      have := inv.2 j oj hoj h3 e he hb
      rw [hon] at this
      exact fin this
def handsAt (ops : Array Oper) (i : Nat) : Bool := match ops[i]? with
  | some o => handsB o
  | none => false
/-- 's' waits for every operation of 'p'; with 'u': but for those that hand a value on. -/
def sinks (md : Region.Mode) (ops : Array Oper) (u : Bool) (p : List Nat) (s : Nat) : Bool :=
  p.all fun i => (u && handsAt ops i) || reach md ops s ops.size i

/-- A calm operation that may come up now may be taken first. -/
theorem anyC_first {u : Bool} {p : List Nat} {Q : Exit → Act → World → Prop} {i : Nat} {oi : Oper} {v : Value} (hi : ops[i]? = some oi) (hip : p.contains i = true)
    (hsel : ∀ (j : Nat) (o : Oper) cs b, ops[j]? = some o → o.op ≠ .select cs b)
    (hQ : u = true → ∀ c a w d v, Q (.panic c) (Act.put a d v) w → Q (.panic c) a w)
    (hsink : ∀ j, j < ops.size → p.contains j = false → isFresh ops j = false → sinks md ops u p j = true) :
    ∀ (f : Nat) (listed : Array Bool) (a : Act) (F : World → Prop), Closed md ops listed →
      (∀ j oj, ops[j]? = some oj → j ≠ i → listed.getD j true = false → (∀ e ∈ oj.after, Region.binds md e = true → e.on ≠ i) → oi.apart ops oj = true) →
      i ∈ Region.ready md ops listed → YieldsC P ops w0 oi v a →
      anyC P md ops w0 p Q f (listed.setIfInBounds i true) (a.put oi.dst v) F → anyC P md ops w0 p Q (f + 1) listed a F := by
  intro f
  induction f with
  | zero =>
    intro listed a F inv _ hr hy H
    refine ⟨fun h => (by rw [h] at hr; cases hr), fun j hj => ?_⟩
    by_cases hji : j = i
    · subst hji; rw [if_pos hip]; exact hy.preOp hi H
    · have := ready_mono hj hji
      rw [H.1] at this
      cases this
  | succ f ih =>
    intro listed a F inv hfree hr hy H
    refine ⟨fun h => (by rw [h] at hr; cases hr), fun j hj => ?_⟩
    by_cases hji : j = i
    · subst hji; rw [if_pos hip]; exact hy.preOp hi H
    · have h1 := H.2 j (ready_mono hj hji)
      obtain ⟨hjun, oj, hoj, hall⟩ := mem_ready.1 hj
      have hnot : ∀ e ∈ oj.after, Region.binds md e = true → e.on ≠ i := fun e he hb heq => by
        have h1 := hall e he hb
        have h0 := (mem_ready.1 hr).1
        rw [heq] at h1
        rcases Nat.lt_or_ge i listed.size with h' | h'
        · simp [h'] at h0 h1; rw [h0] at h1; cases h1
        · simp [Array.getElem?_eq_none h'] at h1
      have hap := hfree j oj hoj hji hjun hnot
      have hfree' : ∀ k ok, ops[k]? = some ok → k ≠ i → (listed.setIfInBounds j true).getD k true = false →
          (∀ e ∈ ok.after, Region.binds md e = true → e.on ≠ i) → oi.apart ops ok = true := fun k ok hk hki hun hno => by
        refine hfree k ok hk hki ?_ hno
        by_cases hjk : j = k
        · subst hjk; exact hjun
        · rw [getD_set_ne true hjk] at hun; exact hun
      by_cases hp : p.contains j = true
      · rw [if_pos hp] at h1 ⊢
        have h2 := preOp_put hoj hap (fun cs b => hsel i oi cs b hi) (fun cs b => hsel j oj cs b hoj) hy h1
        refine preOp_mono (fun a' h3 => ih (listed.setIfInBounds j true) a' F (inv.set_ hj) hfree' (ready_mono hr (Ne.symm hji)) h3.1 ?_) h2
        rw [Array.setIfInBounds_comm _ _ hji]
        exact h3.2
      · rw [if_neg hp] at h1 ⊢
        by_cases hf : isFresh ops j = true
        · rw [if_pos hf] at h1 ⊢
          unfold newOpAt at h1 ⊢
          simp only [hoj] at h1 ⊢
          have h2 := newOp_put hap (fun cs b => hsel i oi cs b hi) (fun cs b => hsel j oj cs b hoj) hy h1
          refine newOp_mono (fun a' F' h3 => ih (listed.setIfInBounds j true) a' F' (inv.set_ hj) hfree' (ready_mono hr (Ne.symm hji)) h3.1 ?_) h2
          rw [Array.setIfInBounds_comm _ _ hji]
          exact h3.2
        · rw [if_neg hf] at h1 ⊢
          have hjs : j < ops.size := (Array.getElem?_eq_some_iff.1 hoj).1
          have h3 := List.all_eq_true.1 (hsink j hjs (by simpa using hp) (by simpa using hf)) i (by simpa using hip)
          rw [Bool.or_eq_true, Bool.and_eq_true] at h3
          rcases h3 with ⟨hu, hh⟩ | h3
          · have hh' : handsB oi = true := by unfold handsAt at hh; simp only [hi] at hh; exact hh
            have hyy : Yields P ops oi v a := by
              rcases hy with ⟨hw, hv⟩ | hn
              · exact .inl ⟨hw, hands_all hh' (hv ⟨w0, Below.refl _ _⟩)⟩
              · exact .inr hn
            intro x hx
            have hQ' : ∀ c a w, Q (.panic c) (Act.put a oi.dst v) w → Q (.panic c) a w := fun c a w => hQ hu c a w oi.dst v
            have h4 := wpOp_put hoj hap (fun cs b => hsel i oi cs b hi) (fun cs b => hsel j oj cs b hoj) hQ' hyy (h1 x hx)
            refine wpOp_mono (fun a' w' h5 => wpAny_first hi hsel hQ' f (listed.setIfInBounds j true) a' w' hfree' (ready_mono hr (Ne.symm hji)) h5.1 ?_) h4
            rw [Array.setIfInBounds_comm _ _ hji]
            exact h5.2
          · exfalso
            have h3 := reach_spec inv hj _ i h3
            have h0 := (mem_ready.1 hr).1
            rw [h3] at h0
            cases h0

def pick (l : List Oper) : List Nat → List Oper
  | [] => []
  | i :: r => match l[i]? with
    | some o => o :: pick l r
    | none => pick l r

/-- The calm ones in this order, then the others in theirs: each may come up; the others are alone. -/
def seqGo (md : Region.Mode) (ops : Array Oper) : List Nat → Array Bool → Bool
  | [], listed => (Region.ready md ops listed).isEmpty
  | k :: t, listed => decide (Region.ready md ops listed = [k]) && seqGo md ops t (listed.setIfInBounds k true)
def calmGo (md : Region.Mode) (ops : Array Oper) (t : List Nat) : List Nat → Array Bool → Bool
  | [], listed => seqGo md ops t listed
  | i :: r, listed => (Region.ready md ops listed).contains i && (Region.free md ops listed i && calmGo md ops t r (listed.setIfInBounds i true))
def calmB (ops : Array Oper) (u : Bool) (p t : List Nat) : Bool :=
  Region.noSelect ops && (decide (p.length + t.length = ops.size) && (((List.range ops.size).all fun j => p.contains j || (isFresh ops j || sinks .any ops u p j)) && calmGo .any ops t p (Array.replicate ops.size false)))

def wpTail (P : Program) (ops : Array Oper) (w0 : World) (Q : Exit → Act → World → Prop) : List Oper → Act → (World → Prop) → Prop
  | [], a, F => ∀ x : After w0, F x.at_ → Q .normal a x.at_
  | o :: rest, a, F => if freshOp o then newOp P ops w0 o (wpTail P ops w0 Q rest) a F else ∀ x : After w0, F x.at_ → wpList P ops Q (o :: rest) a x.at_

theorem wpAny_of_list {p : List Nat} {Q : Exit → Act → World → Prop} {w : World} : ∀ (t : List Nat) (listed : Array Bool) (a : Act), (∀ i ∈ t, i < ops.size) → seqGo md ops t listed = true →
    wpList P ops Q (pick ops.toList t) a w → wpAny P md ops Q t.length listed a w
  | [], listed, a, _, hB, h => ⟨by simpa [seqGo] using hB, h⟩
  | k :: t, listed, a, hlt, hB, h => by
    simp only [seqGo, Bool.and_eq_true, decide_eq_true_eq] at hB
    refine ⟨fun h1 => (by rw [hB.1] at h1; cases h1), fun i hi => ?_⟩
    rw [hB.1] at hi
    have hik : i = k := by simpa using hi
    subst hik
    have hi' := hlt i (by simp)
    have ho : ops[i]? = some ops[i] := Array.getElem?_eq_getElem hi'
    have hol : ops.toList[i]? = some ops[i] := by simp
    simp only [pick, hol] at h
    have hw : wpOp P ops Q i (wpList P ops Q (pick ops.toList t)) a w := by unfold wpOp; simp only [ho]; exact h
    exact wpOp_mono (fun a' w' h' => wpAny_of_list (p := p) t _ a' (fun j hj => hlt j (by simp [hj])) hB.2 h') hw

theorem anyC_of_tail {p : List Nat} {Q : Exit → Act → World → Prop} : ∀ (t : List Nat) (listed : Array Bool) (a : Act) (F : World → Prop), (∀ i ∈ t, i < ops.size ∧ p.contains i = false) → seqGo md ops t listed = true →
    wpTail P ops w0 Q (pick ops.toList t) a F → anyC P md ops w0 p Q t.length listed a F
  | [], listed, a, F, _, hB, h => ⟨by simpa [seqGo] using hB, h⟩
  | k :: t, listed, a, F, hlt, hB, h => by
    have hB' := hB
    simp only [seqGo, Bool.and_eq_true, decide_eq_true_eq] at hB
    refine ⟨fun h1 => (by rw [hB.1] at h1; cases h1), fun i hi => ?_⟩
    rw [hB.1] at hi
    have hik : i = k := by simpa using hi
    subst hik
    obtain ⟨hi', hip⟩ := hlt i (by simp)
    have ho : ops[i]? = some ops[i] := Array.getElem?_eq_getElem hi'
    have hol : ops.toList[i]? = some ops[i] := by simp
    simp only [pick, hol, wpTail] at h
    rw [if_neg (by rw [hip]; exact Bool.false_ne_true)]
    have hfr : isFresh ops i = freshOp ops[i] := by unfold isFresh; simp only [ho]
    by_cases hf : isFresh ops i = true
    · rw [if_pos hf]
      rw [if_pos (by rw [← hfr]; exact hf)] at h
      unfold newOpAt
      simp only [ho]
      exact newOp_mono (fun a' F' h' => anyC_of_tail t _ a' F' (fun j hj => hlt j (by simp [hj])) hB.2 h') h
    · rw [if_neg hf]
      rw [if_neg (by rw [← hfr]; exact hf)] at h
      intro x hx
      have := wpAny_of_list (P := P) (md := md) (p := p) (Q := Q) (i :: t) listed a (fun j hj => (hlt j hj).1) hB' (by simp only [pick, hol]; exact h x hx)
      exact this.2 i (by rw [hB.1]; simp)

theorem anyC_of_calm {u : Bool} {p t : List Nat} {Q : Exit → Act → World → Prop} (hQ : u = true → ∀ c a w d v, Q (.panic c) (Act.put a d v) w → Q (.panic c) a w) (hsel : Region.noSelect ops = true) (ht : ∀ i ∈ t, i < ops.size ∧ p.contains i = false)
    (hsink : ∀ j, j < ops.size → p.contains j = false → isFresh ops j = false → sinks md ops u p j = true) :
    ∀ (l : List Nat) (listed : Array Bool) (a : Act) (F : World → Prop), (∀ i ∈ l, i < ops.size ∧ p.contains i = true) → Closed md ops listed → calmGo md ops t l listed = true →
      wpCalm P ops w0 (fun a' => wpTail P ops w0 Q (pick ops.toList t) a' F) (pick ops.toList l) a → anyC P md ops w0 p Q (l.length + t.length) listed a F
  | [], listed, a, F, _, _, hB, h => by
    have := anyC_of_tail (P := P) (md := md) (w0 := w0) (p := p) (Q := Q) t listed a F ht hB h
    simpa using this
  | i :: l, listed, a, F, hl, inv, hB, h => by
    simp only [calmGo, Bool.and_eq_true] at hB
    obtain ⟨hr, hf, hB'⟩ := hB
    obtain ⟨hi', hip⟩ := hl i (by simp)
    have ho : ops[i]? = some ops[i] := Array.getElem?_eq_getElem hi'
    have hol : ops.toList[i]? = some ops[i] := by simp
    simp only [pick, hol] at h
    have hst : preOp P ops w0 i (wpCalm P ops w0 (fun a' => wpTail P ops w0 Q (pick ops.toList t) a' F) (pick ops.toList l)) a := by unfold preOp; simp only [ho]; exact h
    obtain ⟨v, hy, hK⟩ := yieldsC_of_preOp ho hst
    have hr' : i ∈ Region.ready md ops listed := by simpa using hr
    have e : (i :: l).length + t.length = (l.length + t.length) + 1 := by simp only [List.length_cons]; omega
    rw [e]
    exact anyC_first ho hip (Region.noSelect_spec hsel) hQ hsink _ listed a F inv (Region.free_spec ho hf) hr' hy
      (anyC_of_calm hQ hsel ht hsink l _ _ F (fun j hj => hl j (by simp [hj])) (inv.set_ hr') hB' hK)

theorem wp_region_calmU {id : Nat} {Q : Exit → Act → World → Prop} {a : Act} {w : World} {l : List Oper} (u : Bool) (p t : List Nat) (hQ : u = true → ∀ c a w d v, Q (.panic c) (Act.put a d v) w → Q (.panic c) a w) (hm : P.follows .mixedOrders = true) (hB : calmB l.toArray u p t = true)
    (hp : (p.all fun i => decide (i < l.length)) = true) (ht : (t.all fun i => decide (i < l.length) && !p.contains i) = true)
    (h : wpCalm P l.toArray w (fun a' => wpTail P l.toArray w Q (pick l t) a' (fun _ => True)) (pick l p) a) : (Code.region id l.toArray true).wp P Q a w := by
  simp only [calmB, Bool.and_eq_true, decide_eq_true_eq] at hB
  obtain ⟨hsel, hlen, hall, hgo⟩ := hB
  refine wp_region_any hm ?_
  have inv0 : Closed .any l.toArray (Array.replicate l.toArray.size false) := ⟨by simp, fun j oj _ hl => (by rw [getD_replicate_false] at hl; cases hl)⟩
  have H := anyC_of_calm (P := P) (md := .any) (w0 := w) (Q := Q) (p := p) (t := t) hQ hsel
    (fun i hi => by
      have := List.all_eq_true.1 ht i hi
      simp only [Bool.and_eq_true, decide_eq_true_eq, Bool.not_eq_true'] at this
      exact ⟨by simpa using this.1, this.2⟩)
    (fun j hj hjp hjf => by
      have := List.all_eq_true.1 hall j (List.mem_range.2 hj)
      rw [hjp, hjf] at this
      simpa using this)
    p _ a (fun _ => True)
    (fun i hi => ⟨by have := List.all_eq_true.1 hp i hi; simpa using this, by simpa using hi⟩) inv0 hgo (by simpa using h)
  rw [hlen] at H
  exact wpAny_of_anyC _ _ _ _ stable_true H ⟨w.drew, (Below.refl _ _).drew⟩ trivial
theorem wp_region_calm {id : Nat} {Q : Exit → Act → World → Prop} {a : Act} {w : World} {l : List Oper} (p t : List Nat) (hm : P.follows .mixedOrders = true) (hB : calmB l.toArray false p t = true)
    (hp : (p.all fun i => decide (i < l.length)) = true) (ht : (t.all fun i => decide (i < l.length) && !p.contains i) = true)
    (h : wpCalm P l.toArray w (fun a' => wpTail P l.toArray w Q (pick l t) a' (fun _ => True)) (pick l p) a) : (Code.region id l.toArray true).wp P Q a w :=
  wp_region_calmU false p t (fun e => by cases e) hm hB hp ht h
end

section
variable {P : Program} {ops : Array Oper} {w0 : World} {Q : Exit → Act → World → Prop} {a : Act} {F : World → Prop} {o : Oper} {rest : List Oper}
theorem wpTail_end (h : ∀ w', Below w0.heap.size w0 w' → F w' → Q .normal a w') : wpTail P ops w0 Q [] a F := fun x hx => h x.at_ x.below hx
theorem wpTail_list (hf : freshOp o = false) (h : ∀ w', Below w0.heap.size w0 w' → F w' → wpList P ops Q (o :: rest) a w') : wpTail P ops w0 Q (o :: rest) a F := by
  unfold wpTail
  rw [if_neg (by rw [hf]; exact Bool.false_ne_true)]
  exact fun x hx => h x.at_ x.below hx
theorem wpTail_fresh {obj : Obj} (hf : freshOp o = true) (hg : o.guard = none) (ho : freshAt P o a w0 obj)
    (h : ∀ b, w0.heap.size ≤ b → wpTail P ops w0 Q rest (a.put o.dst (.pointer (some ⟨b, 0, none⟩))) (fun w => F w ∧ w.heap[b]? = some obj)) : wpTail P ops w0 Q (o :: rest) a F := by
  unfold wpTail
  rw [if_pos hf]
  unfold newOp
  rw [if_pos (by simp [Region.wanted, hg])]
  exact ⟨obj, ho, h⟩
end
end Go.Proofs.YtnkpegdmbocgaaaDoor
