/-
  Operations that leave memory alone: each held against the model's.
-/
import Derived.Test.YtnkpegdmbocgaaaDoorEx3
namespace Go.Proofs.YtnkpegdmbocgaaaDoor
open Go Go.RowKit

def constInt : Operand → Option Int
  | .const (.int _ n) => some n
  | _ => none
def ofConst : Value → AV
  | .agg cs => .agg (cs.toList.map AV.val)
  | v => .val v
def nonneg (y : Operand) (n : Int) : List Bool := match constInt y with
  | some (.ofNat _) => []
  | _ => [decide (0 ≤ n)]
def nonzero (y : Operand) (n : Int) : List Bool := match constInt y with
  | some (.ofNat (_ + 1)) => []
  | _ => [decide (n ≠ 0)]
def binA (P : Program) (op : BinOp) (t : TypeId) (yo : Operand) (a b : AV) : Option (AV × List Bool) := match a, b with
  | .val (.int k x), .val (.int k' y) => match isShift op with
    | true => match shiftA op k x y with
      | some v => some (v, nonneg yo y)
      | none => none
    | false => match decide (k = k') with
      | true => match intA op k x y with
        | some (v, d) => match d with
          | true => some (v, nonzero yo y)
          | false => some (v, [])
        | none => none
      | false => none
  | .val (.string x), .val (.string y) => strA op x y
  | a, b => match isEq op with
    | true => match P.eqGuardType P.depth t with
      | false => match eqA P 16 t a b with
        | some r => match op with
          | .eql => some (.val (.bool r), [])
          | _ => some (.val (.bool (!r)), [])
        | none => none
      | true => none
    | false => none
def unA (op : UnOp) (a : AV) : Option AV := match op, a with
  | .neg, .val (.int k n) => some (.val (.int k (k.wrap (0 - n))))
  | .xor, .val (.int k n) => some (.val (.int k (k.wrap (BitVec.ofInt k.bits (if k.signed then -1 else k.max) ^^^ BitVec.ofInt k.bits n).toNat)))
  | .not, .val (.bool b) => some (.val (.bool (!b)))
  | _, _ => none
def convA (P : Program) (src dst : TypeId) (a : AV) : Option AV := match P.underlying src, P.underlying dst, a with
  | some _, some (.int k), .val (.int _ n) => some (.val (.int k (k.wrap n)))
  | some _, some .string, .val (.string s) => some (.val (.string s))
  | _, _, _ => none
def fieldA (P : Program) (t : TypeId) (a : AV) (f : Nat) : Option AV := match P.underlying t, a with
  | some (.struct fs), .agg cs => match fs[f]? with
    | some fd => partA P fd.type cs fd.offset
    | none => none
  | _, _ => none
/-- A byte of a text. -/
def byteAt (s : ByteArray) (i : Nat) : Int := ((s.data.toList.getD i 0).toNat : Int)
def idxNat (i : Int) : Nat := i.toNat
def indexA (P : Program) (t : TypeId) (a i : AV) : Option (AV × List Bool) := match P.underlying t, a, i with
  | some .string, .val (.string s), .val (.int _ n) => some (.val (.int .u8 (byteAt s n.toNat)), [decide (0 ≤ n), decide (n.toNat < s.size)])
  | some (.array len e), .agg cs, .val (.int _ (.ofNat n)) => match Nat.blt n len with
    | true => match P.info? e with
      | some f => match partA P e cs (n * f.size) with
        | some v => some (v, [])
        | none => none
      | none => none
    | false => none
  | _, _, _ => none
/-- j cells on. -/
def bump (w r c j : Nat) : Nat × Nat := match Nat.beq w 1 with
  | true => (r + j, c)
  | false => (r, c + j)
def fieldAddrA (P : Program) (t : TypeId) (a : AV) (f : Nat) : Option AV := match P.underlying t, a with
  | some (.struct fs), .ptr l w r c => match fs[f]? with
    | some fd => match P.info? fd.type with
      | some i => match Nat.beq i.size 0 with
        | false => match bump w r c fd.offset with
          | (r', c') => some (.ptr l w r' c')
        | true => none
      | none => none
    | none => none
  | _, _ => none
def mulN (n s : Nat) : Nat := match Nat.beq s 1 with
  | true => n
  | false => n * s
/-- r and k, without a nought in front. -/
def addN (r k : Nat) : Nat := match Nat.beq r 0 with
  | true => k
  | false => r + k
theorem addN_eq (r k : Nat) : addN r k = r + k := by
  unfold addN
  split
  · rename_i h; rw [Nat.eq_of_beq_eq_true h]; omega
  · rfl
def indexAddrA (P : Program) (t : TypeId) (a i : AV) : Option (AV × List Bool) := match P.underlying t, a, i with
  | some (.slice e), .sl _ l w r s n _, .val (.int _ k) => match P.info? e with
    | some f => match Nat.beq f.size (s * w) with
      | true => some (.ptr l w (addN r (mulN k.toNat s)) 0, [decide (0 ≤ k), decide (k.toNat < n)])
      | false => none
    | none => none
  | some (.array len e), .ptr l w r c, .val (.int _ k) => match P.info? e with
    | some f => match Nat.beq w 1 with
      | true => some (.ptr l w (addN r (mulN k.toNat f.size)) c, [decide (0 ≤ k), decide (k.toNat < len)])
      | false => match Nat.beq w f.size with
        | true => some (.ptr l w (addN r k.toNat) c, [decide (0 ≤ k), decide (k.toNat < len)])
        | false => some (.ptr l w r (addN c (mulN k.toNat f.size)), [decide (0 ≤ k), decide (k.toNat < len)])
    | none => none
  | some (.array len e), .val (.pointer (some ⟨g, o, none⟩)), .val (.int _ k) => match P.info? e with
    | some f => some (.val (.pointer (some ⟨g, addN o (mulN k.toNat f.size), none⟩)), [decide (0 ≤ k), decide (k.toNat < len)])
    | none => none
  | _, _, _ => none
def loadN (k : Cont) (w r c : Nat) : Nat → Nat → Option (List AV × List Bool)
  | 0, _ => some ([], [])
  | n + 1, j => match bump w r c j with
    | (r', c') => match k.at r' c' with
      | some (a, b) => match loadN k w r c n (j + 1) with
        | some (as, bs) => match k with
          | .cells _ => some (a :: as, bs)
          | _ => some (a :: as, b :: bs)
        | none => none
      | none => none
/-- A package variable's cells. -/
def globOf : List (Nat × Option ABlk) → Nat → Option (Nat × Col)
  | [], _ => none
  | (l, some ⟨_, _, .obj (.glob g c)⟩) :: r, k => match Nat.beq g k with
    | true => some (l, c)
    | false => globOf r k
  | _ :: r, k => globOf r k
def loadA (P : Program) (t : TypeId) (m : MS) (a : AV) : Option (AV × List Bool) := match a with
  | .val (.pointer (some ⟨g, o, none⟩)) => match globOf m.bl g with
    | some (l, _) => match look m.bl l with
      | some ⟨_, _, .obj (.glob g' c)⟩ => match Nat.beq g' g with
        | true => match aggT P t with
          | some false => match c.at o with
            | (a, b) => some (a, [b])
          | _ => none
        | false => none
      | _ => none
    | none => none
  | .ptr l w r c => match look m.bl l with
    | some b => match Nat.beq b.cont.width w with
      | true => match aggT P t with
        | some true => match P.info? t with
          | some i => match loadN b.cont w r c i.size 0 with
            | some (as, bs) => some (.agg as, bs)
            | none => none
          | none => none
        | some false => match loadN b.cont w r c 1 0 with
          | some (a :: _, bs) => some (a, bs)
          | _ => none
        | none => none
      | false => none
    | none => none
  | _ => none
def bound (o : Option AV) (d : Nat) : Option Int := match o with
  | none => some d
  | some (.val (.int _ n)) => some n
  | _ => none
/-- A part of a text, of a slice, of an array. -/
def sliceA (P : Program) (t : TypeId) (a : AV) (lo hi : Option AV) : Option (AV × List Bool) := match P.underlying t, a with
    | some .string, .val (.string s) => match bound lo 0, bound hi s.size with
      | some l, some h => some (.val (.string (s.extract l.toNat h.toNat)), [decide (0 ≤ l), decide (l ≤ h), decide (h ≤ s.size)])
      | _, _ => none
    | some (.slice e), .sl nn l w r s n cap => match P.info? e with
      | some f => match Nat.beq f.size (s * w) with
        | true => match bound lo 0, bound hi n with
          | some b, some h => some (.sl nn l w (addN r (mulN b.toNat s)) s (h.toNat - b.toNat) (match cap with | some c => some (c - b.toNat) | none => none), [decide (0 ≤ b), decide (b ≤ h), decide (h ≤ n)])
          | _, _ => none
        | false => none
      | none => none
    | some (.slice e), .val (.slice none 0 0) => match P.info? e with
      | some _ => match bound lo 0, bound hi 0 with
        | some b, some h => some (.val (.slice none 0 0), [decide (b = 0), decide (h = 0)])
        | _, _ => none
      | none => none
    | some (.array n e), .ptr l w r c => match P.info? e with
      | some f => match Nat.beq c 0 with
        | true => match (match Nat.beq w 1 with | true => some f.size | false => match Nat.beq w f.size with | true => some 1 | false => none) with
          | some s => match bound lo 0, bound hi n with
            | some b, some h => some (.sl true l w (addN r (mulN b.toNat s)) s (h.toNat - b.toNat) (some (n - b.toNat)), [decide (0 ≤ b), decide (b ≤ h), decide (h ≤ n)])
            | _, _ => none
          | none => none
        | false => none
      | none => none
    | _, _ => none
def optRel (ρ : Rho) (nx : Nat) : Option AV → Option Value → Prop
  | none, o => o = none
  | some a, o => ∃ x, o = some x ∧ AV.rel ρ nx a x
section
variable {P : Program} {ρ : Rho} {m : MS} {w : World}
def PureOk (P : Program) (s : Sem Value) (ρ : Rho) (nx : Nat) (w : World) (v : AV) : Prop := ∃ x, s.run P w = .ok x w ∧ AV.rel ρ nx v x
theorem mkPure {nx : Nat} {s : Sem Value} {v : AV} (x : Value) (h : s.run P w = .ok x w) (hr : AV.rel ρ nx v x) : PureOk P s ρ nx w v := ⟨x, h, hr⟩
theorem nonneg_ok {y : Operand} {n : Int} (hc : ∀ k, constInt y = some k → n = k) (h : (nonneg y n).all id = true) : 0 ≤ n := by
  unfold nonneg at h
  split at h
  · rename_i k hk
    rw [hc _ hk]; simp
  · simpa using h
theorem nonzero_ok {y : Operand} {n : Int} (hc : ∀ k, constInt y = some k → n = k) (h : (nonzero y n).all id = true) : n ≠ 0 := by
  unfold nonzero at h
  split at h
  · rename_i k hk
    rw [hc _ hk]
    intro e
    have : (0 : Int) = Int.ofNat 0 := rfl
    rw [this] at e
    cases e
  · simpa using h
theorem eqA_shape {d : Nat} {t : TypeId} {a b : AV} {r : Bool} {x y : Value} {nx : Nat} (h : eqA P d t a b = some r) (hx : AV.rel ρ nx a x) (hy : AV.rel ρ nx b y) :
    (∃ p q, x = .bool p ∧ y = .bool q) ∨ (∃ k p k' q, a = .val (.int k p) ∧ b = .val (.int k' q)) ∨ (∃ p q, a = .val (.string p) ∧ b = .val (.string q)) ∨ (∃ p q, x = .pointer p ∧ y = .pointer q) ∨
    (∃ p n c q n' c', x = .slice p n c ∧ y = .slice q n' c') ∨ (∃ p q, x = .agg p ∧ y = .agg q) ∨ (x = .nilFunc ∧ y = .nilFunc) ∨ (∃ f p q, x = .func f p q ∧ y = .nilFunc) ∨ (∃ f p q, x = .nilFunc ∧ y = .func f p q) := by
  cases d with
  | zero => cases h
  | succ d =>
    simp only [eqA] at h
    cases hu : P.underlying t with
    | none => rw [hu] at h; cases h
    | some ty =>
      rw [hu] at h
      have fx : ∀ v, AV.rel ρ nx (.val v) x → x = v := fun v h => by simpa only [AV.rel] using h
      have fy : ∀ v, AV.rel ρ nx (.val v) y → y = v := fun v h => by simpa only [AV.rel] using h
      cases ty with
      | func ps rs vr =>
        dsimp only at h
        split at h
        · simp only [AV.rel] at hx hy
          subst hx hy
          exact .inr (.inr (.inr (.inr (.inr (.inr (.inl ⟨rfl, rfl⟩))))))
        · simp only [AV.rel] at hx hy
          obtain ⟨_, _, rfl, _⟩ := hx
          subst hy
          exact .inr (.inr (.inr (.inr (.inr (.inr (.inr (.inl ⟨_, _, _, rfl, rfl⟩)))))))
        · simp only [AV.rel] at hx hy
          obtain ⟨_, _, rfl, _⟩ := hy
          subst hx
          exact .inr (.inr (.inr (.inr (.inr (.inr (.inr (.inr ⟨_, _, _, rfl, rfl⟩)))))))
        · cases h
      | _ =>
      (try cases h) <;> dsimp only at h <;> split at h <;> (try cases h)
      all_goals (try simp only [AV.rel] at hx hy)
      all_goals (try (obtain ⟨_, _, _, hx, _⟩ := hx))
      all_goals (try (obtain ⟨_, _, _, hy, _⟩ := hy))
      all_goals (try (obtain ⟨_, hx, _⟩ := hx))
      all_goals (try (obtain ⟨_, hy, _⟩ := hy))
      all_goals (try (obtain ⟨_, hx⟩ := hx))
      all_goals (try (obtain ⟨_, hy⟩ := hy))
      all_goals (try subst hx)
      all_goals (try subst hy)
      all_goals first
        | exact .inl ⟨_, _, rfl, rfl⟩
        | exact .inr (.inl ⟨_, _, _, _, rfl, rfl⟩)
        | exact .inr (.inr (.inl ⟨_, _, rfl, rfl⟩))
        | exact .inr (.inr (.inr (.inl ⟨_, _, rfl, rfl⟩)))
        | exact .inr (.inr (.inr (.inr (.inl ⟨_, _, _, _, _, _, rfl, rfl⟩))))
        | exact .inr (.inr (.inr (.inr (.inr (.inl ⟨_, _, rfl, rfl⟩)))))
theorem binA_ok {op : BinOp} {t : TypeId} {xo yo : Operand} {a b : AV} {v : AV} {bs : List Bool} {x y : Value} {nx : Nat} (h : binA P op t yo a b = some (v, bs)) (hx : AV.rel ρ nx a x) (hy : AV.rel ρ nx b y) (hc : ∀ k, constInt yo = some k → ∃ q, y = .int q k) (hbs : bs.all id = true) :
    PureOk P (do eqGuard op t xo yo x y; binOp op t x y) ρ nx w v := by
  unfold binA at h
  split at h
  · rename_i k x k' y
    simp only [AV.rel] at hx hy
    subst hx hy
    have hg : ∀ w, (eqGuard op t xo yo (.int k x) (.int k' y)).run P w = .ok () w := fun w => by
      unfold eqGuard
      cases op <;> simp
    have hc' : ∀ n, constInt yo = some n → y = n := fun n hn => by obtain ⟨q, e⟩ := hc n hn; cases e; rfl
    cases hsh : isShift op with
    | true =>
      rw [hsh] at h
      dsimp only at h
      cases hv : shiftA op k x y with
      | none => rw [hv] at h; cases h
      | some v' =>
        rw [hv] at h
        simp only [Option.some.injEq, Prod.mk.injEq] at h
        obtain ⟨rfl, rfl⟩ := h
        have h0 := nonneg_ok hc' hbs
        unfold shiftA at hv
        cases op <;> simp only [isShift, Bool.false_eq_true] at hsh <;> dsimp only at hv <;> cases hv
        · exact mkPure _ (by simp [hg, binOp, Op.shift, show ¬ y < 0 by omega]; rfl) (by simp [AV.rel])
        · exact mkPure _ (by simp [hg, binOp, Op.shift, show ¬ y < 0 by omega]; rfl) (by simp [AV.rel])
    | false =>
      rw [hsh] at h
      dsimp only at h
      by_cases hk : k = k'
      · subst hk
        simp only [decide_true] at h
        cases hv : intA op k x y with
        | none => rw [hv] at h; cases h
        | some p =>
          obtain ⟨v', d⟩ := p
          rw [hv] at h
          unfold intA at hv
          cases op <;> simp only [isShift, Bool.true_eq_false] at hsh <;> dsimp only at hv <;> cases hv <;> dsimp only at h <;> simp only [Option.some.injEq, Prod.mk.injEq] at h <;> obtain ⟨rfl, rfl⟩ := h
          all_goals first
            | exact mkPure _ (by simp [hg, binOp, Op.intArith, intBits_and, intBits_or, intBits_xor, intBits_andNot, Op.intCmp]; rfl) (by simp [AV.rel])
            | exact mkPure _ (by simp only [Sem.run_bind, hg, Result.andThen_ok, binOp, intBits_and, intBits_or, intBits_xor, intBits_andNot]; rfl) (by simp [AV.rel])
            | (have h0 := nonzero_ok hc' hbs; exact mkPure _ (by simp [hg, binOp, Op.intDiv, h0]; rfl) (by simp [AV.rel]))
      · simp [hk] at h
  · rename_i x y
    simp only [AV.rel] at hx hy
    subst hx hy
    have hg : ∀ w, (eqGuard op t xo yo (.string x) (.string y)).run P w = .ok () w := fun w => by
      unfold eqGuard
      cases op <;> simp
    unfold strA at h
    cases op <;> dsimp only at h <;> simp only [Option.some.injEq, Prod.mk.injEq, reduceCtorEq] at h <;> obtain ⟨rfl, rfl⟩ := h
    all_goals (try simp only [lenB_eq, catB_eq] at hbs)
    all_goals (try rw [catB_eq])
    all_goals first
      | exact mkPure _ (by simp [hg, binOp, Op.stringOp]; rfl) (by simp [AV.rel])
      | (have h0 : ((x.size + y.size : Nat) : Int) ≤ IntKind.i64.max := by
          have h1 : x.size + y.size ≤ 9223372036854775807 := by simpa using hbs
          have e : IntKind.i64.max = 9223372036854775807 := by decide
          rw [e]
          omega
         exact mkPure _ (by simp only [Sem.run_bind, hg, Result.andThen_ok, binOp, Op.stringOp]; rw [if_neg (by omega)]; rfl) (by simp [AV.rel]))
  · rename_i h1 h2
    cases hq : isEq op with
    | false => rw [hq] at h; cases h
    | true =>
      rw [hq] at h
      dsimp only at h
      cases hG : P.eqGuardType P.depth t with
      | true => rw [hG] at h; cases h
      | false =>
        rw [hG] at h
        dsimp only at h
        cases hr : eqA P 16 t a b with
        | none => rw [hr] at h; cases h
        | some r =>
          rw [hr] at h
          have key := eqA_ok (w := w) 16 t a b r x y Op.maxDepth hr hx hy (by decide)
          have sh := eqA_shape hr hx hy
          have hne : ∀ x y : Value, (Op.equal t x y).run P w = .ok r w → (op = .eql ∧ v = .val (.bool r)) ∨ (op = .neq ∧ v = .val (.bool (!r))) := fun x y _ => by
            cases op <;> simp only [isEq, Bool.false_eq_true] at hq <;> dsimp only at h <;> cases h <;> simp
          have key' : (Op.equal t x y).run P w = .ok r w := key
          rcases sh with ⟨p, q, rfl, rfl⟩ | ⟨k, p, k', q, e1, e2⟩ | ⟨p, q, e1, e2⟩ | ⟨p, q, rfl, rfl⟩ | ⟨p, n, c, q, n', c', rfl, rfl⟩ | ⟨p, q, rfl, rfl⟩ | ⟨rfl, rfl⟩ | ⟨f, p, q, rfl, rfl⟩ | ⟨f, p, q, rfl, rfl⟩
          · rcases hne _ _ key' with ⟨rfl, rfl⟩ | ⟨rfl, rfl⟩ <;> exact mkPure _ (by simp [eqGuard, binOp, key']; rfl) (by simp [AV.rel])
          · exact absurd e2 (fun e2 => h1 _ _ _ _ e1 e2)
          · exact absurd e2 (fun e2 => h2 _ _ e1 e2)
          · rcases hne _ _ key' with ⟨rfl, rfl⟩ | ⟨rfl, rfl⟩ <;> exact mkPure _ (by simp [eqGuard, binOp, key']; rfl) (by simp [AV.rel])
          · rcases hne _ _ key' with ⟨rfl, rfl⟩ | ⟨rfl, rfl⟩ <;> exact mkPure _ (by simp [eqGuard, binOp, key']; rfl) (by simp [AV.rel])
          · rcases hne _ _ key' with ⟨rfl, rfl⟩ | ⟨rfl, rfl⟩ <;> exact mkPure _ (by simp [eqGuard, binOp, key', hG]; rfl) (by simp [AV.rel])
          · rcases hne _ _ key' with ⟨rfl, rfl⟩ | ⟨rfl, rfl⟩ <;> exact mkPure _ (by simp [eqGuard, binOp, key']; rfl) (by simp [AV.rel])
          · rcases hne _ _ key' with ⟨rfl, rfl⟩ | ⟨rfl, rfl⟩ <;> exact mkPure _ (by simp [eqGuard, binOp, key']; rfl) (by simp [AV.rel])
          · rcases hne _ _ key' with ⟨rfl, rfl⟩ | ⟨rfl, rfl⟩ <;> exact mkPure _ (by simp [eqGuard, binOp, key']; rfl) (by simp [AV.rel])
end
end Go.Proofs.YtnkpegdmbocgaaaDoor
