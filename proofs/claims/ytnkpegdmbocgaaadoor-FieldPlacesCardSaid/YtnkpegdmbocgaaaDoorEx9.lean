/-
  A function's text, run by names, and what that says of the model's calls.
-/
import Derived.Scope
import Derived.Test.YtnkpegdmbocgaaaDoorExK
namespace Go.Proofs.YtnkpegdmbocgaaaDoor
open Go Go.RowKit

inductive Out where
  | ret (tm : List AV) (m : MS)
  | head (todo : List Item) (tm : List AV) (m : MS)
  | left (jump : Option Code) (tm : List AV) (m : MS)
def maskA (live : List Nat) : Nat → List AV → List AV
  | _, [] => []
  | i, a :: r => (match live.any (Nat.beq i) with | true => a | false => .unk) :: maskA live (i + 1) r
/-- Where to stand still: how deep, which variables and names are wanted on, how many names there are then. -/
abbrev Cut := Nat × List Nat × List Nat × Nat
def cutAt : List Cut → Nat → Option (List Nat × List Nat × Nat)
  | [], _ => none
  | (n, c) :: r, k => match Nat.beq n k with
    | true => some c
    | false => cutAt r k
def keepB (m : MS) : List Nat → List (Nat × Option ABlk)
  | [] => []
  | l :: r => (l, look m.bl l) :: keepB m r
mutual
/-- All names are below this number. -/
def AV.locsB (n : Nat) : AV → Bool
  | .unk => true
  | .val _ => true
  | .ptr l _ _ _ => Nat.blt l n
  | .sl _ l _ _ _ _ _ => Nat.blt l n
  | .gd _ _ _ v => AV.locsB n v
  | .clo _ a b => AV.locsBs n a && AV.locsBs n b
  | .agg cs => AV.locsBs n cs
  | .tup cs => AV.locsBs n cs
  | .yld l => Nat.blt l n
def AV.locsBs (n : Nat) : List AV → Bool
  | [] => true
  | a :: r => AV.locsB n a && AV.locsBs n r
end
def Cont.locsB (n : Nat) : Cont → Bool
  | .cells l => AV.locsBs n l
  | .obj (.loop _ _ tm _ _ _) => AV.locsBs n tm
  | _ => true
def blocksB (n : Nat) : List (Nat × Option ABlk) → Bool
  | [] => true
  | (l, some b) :: r => Nat.blt l n && (b.cont.locsB n && blocksB n r)
  | (_, none) :: r => blocksB n r
def regA (P : Program) (E : Env) (D : Array Oper → List AV → MS → Option (List AV × MS × List Bool)) (ops : Array Oper) (draw : Bool) (tm : List AV) (m : MS) : Option (List AV × MS × List Bool) := match draw with
  | false => seqA P E ops (cleanA tm) m
  | true => D ops (cleanA tm) m
def mrgOn (cuts : List Cut) : Bool := cuts.any fun c => Nat.beq c.1 777777
/-- Both branches at once, where that is asked for. -/
def mrgA (P : Program) (E : Env) (cuts : List Cut) (c : Code) (tm : List AV) (m : MS) : Option (List AV × List Bool) := match mrgOn cuts with
  | true => segA P E 1000 c tm m
  | false => none
/-- The mark that asks for it, among the cuts. -/
def mrgC : Cut := (777777, [], [], 1000000000)
/-- A run within a loop's round: so marked among the cuts. -/
def rndOn (cuts : List Cut) : Bool := cuts.any fun c => Nat.beq c.1 777778
def rndC : Cut := (777778, [], [], 1000000000)
def outA (cuts : List Cut) (j : Option Code) (tm : List AV) (m : MS) : Out := match rndOn cuts with
  | true => .left j tm m
  | false => .ret tm m
def run {β : Type} (P : Program) (E : Env) (D : Array Oper → List AV → MS → Option (List AV × MS × List Bool)) (cuts : List Cut) (K : Out → List Bool → Option β) : Nat → List Item → List AV → MS → List Bool → Option β
  | 0, _, _, _, _ => none
  | n + 1, todo, tm, m, acc => match todo with
    | [] => K (outA cuts none tm m) acc
    | .code c :: k => match c with
      | .ret => K (outA cuts (some .ret) tm m) acc
      | .skip => run P E D cuts K n k tm m acc
      | .label _ => run P E D cuts K n k tm m acc
      | .seq a b => run P E D cuts K n (.code a :: .code b :: k) tm m acc
      | .cond c x y => match mrgA P E cuts (.cond c x y) tm m with
        | some (tm', bs) => run P E D cuts K n k tm' m (acc ++ bs)
        | none => match evA tm c with
          | .val (.bool t) => bif t then run P E D cuts K n (.code x :: k) tm m acc else run P E D cuts K n (.code y :: k) tm m acc
          | _ => none
      | .block id b => run P E D cuts K n (.code b :: .inBlock id :: k) tm m acc
      | .loop b => match cutAt cuts k.length with
        | some (live, names, nx) => match AV.locsBs nx (maskA live 0 tm) && blocksB nx (keepB m names) with
          | true => K (.head (.code b :: .inLoop b :: k) (maskA live 0 tm) ⟨keepB m names, nx⟩) acc
          | false => none
        | none => run P E D cuts K n (.code b :: .inLoop b :: k) tm m acc
      | .scope b => run P E D cuts K n (.code b :: .inScope b :: k) tm m acc
      | .exit id => match exitTo id k with
        | some k' => run P E D cuts K n k' tm m acc
        | none => match rndOn cuts with
          | true => K (.left (some (.exit id)) tm m) acc
          | false => none
      | .rangeFunc g ps asg body => match cutAt cuts (888888 + k.length) with
        | some (live, names, nx) => match AV.locsBs nx (maskA live 0 tm) && blocksB nx (keepB m names) with
          | true => K (.head (.code (.rangeFunc g ps asg body) :: k) (maskA live 0 tm) ⟨keepB m names, nx⟩) acc
          | false => none
        | none => none
      | .region _ ops draw => match regA P E D ops draw tm m with
        | some (tm', m', bs) => run P E D cuts K n k tm' m' (acc ++ bs)
        | none => none
      | _ => none
    | .inBlock _ :: k => run P E D cuts K n k tm m acc
    | .inScope _ :: k => run P E D cuts K n k tm m acc
    | .inLoop b :: k => match cutAt cuts k.length with
      | some (live, names, nx) => match AV.locsBs nx (maskA live 0 tm) && blocksB nx (keepB m names) with
        | true => K (.head (.code b :: .inLoop b :: k) (maskA live 0 tm) ⟨keepB m names, nx⟩) acc
        | false => none
      | none => run P E D cuts K n (.code b :: .inLoop b :: k) tm m acc
    | _ => none
section
variable {P : Program} {E : Env} {D : Array Oper → List AV → MS → Option (List AV × MS × List Bool)} {cuts : List Cut}
structure St where
  todo : List Item
  tm : List AV
  m : MS
/-- From here one comes to there. -/
def Goes (P : Program) (B : Nat) (s s' : St) : Prop := ∀ (b : Frame) (cs : List Frame) (ρ : Rho) (a : Act) (w : World), AV.rels ρ s.m.nx s.tm a.tmps.toList → MRel ρ s.m w → B ≤ s.m.nx →
  ∃ ρ' a' w', Steps P (lone (b.atR a s.todo) cs w) (lone (b.atR a' s'.todo) cs w') ∧ AV.rels ρ' s'.m.nx s'.tm a'.tmps.toList ∧ a'.defers = a.defers ∧ MRel ρ' s'.m w' ∧ Moves B ρ ρ' s.m s'.m w w'
/-- From here the function returns. -/
def Rets (P : Program) (B : Nat) (s : St) (tm' : List AV) (m' : MS) : Prop := ∀ (b : Frame) (cs : List Frame) (ρ : Rho) (a : Act) (w : World), b.roundOf = none → AV.rels ρ s.m.nx s.tm a.tmps.toList → MRel ρ s.m w → B ≤ s.m.nx →
  ∃ ρ' a' w' todo, Steps P (lone (b.atR a s.todo) cs w) (lone { b.atR a' todo with mode := .returning } cs w') ∧ AV.rels ρ' m'.nx tm' a'.tmps.toList ∧ a'.defers = a.defers ∧ MRel ρ' m' w' ∧ Moves B ρ ρ' s.m m' w w'
/-- How a round is left. -/
def LeftAt (todo : List Item) : Option Code → Prop
  | none => todo = []
  | some .ret => ∃ k, todo = .code .ret :: k
  | some (.exit id) => ∃ k, todo = .code (.exit id) :: k ∧ exitTo id k = none
  | _ => False
def Leaves (P : Program) (B : Nat) (s : St) (j : Option Code) (tm' : List AV) (m' : MS) : Prop := ∀ (b : Frame) (cs : List Frame) (ρ : Rho) (a : Act) (w : World), AV.rels ρ s.m.nx s.tm a.tmps.toList → MRel ρ s.m w → B ≤ s.m.nx →
  ∃ ρ' a' w' todo, Steps P (lone (b.atR a s.todo) cs w) (lone (b.atR a' todo) cs w') ∧ LeftAt todo j ∧ AV.rels ρ' m'.nx tm' a'.tmps.toList ∧ a'.defers = a.defers ∧ MRel ρ' m' w' ∧ Moves B ρ ρ' s.m m' w w'
def Ends (P : Program) (B : Nat) (s : St) : Out → Prop
  | .ret tm m => Rets P B s tm m
  | .head todo tm m => Goes P B s ⟨todo, tm, m⟩
  | .left j tm m => Leaves P B s j tm m
theorem stepR_scope {P : Program} {b : Frame} {a : Act} {k : List Item} {cs : List Frame} {w : World} {c : Code} :
    step P (lone (b.atR a (.code (.scope c) :: k)) cs w) = .next (lone (b.atR a (.code c :: .inScope c :: k)) cs w) :=
  step_lone_go (by simp [stepG, stepG.exec, Frame.atR])
theorem stepR_inScope {P : Program} {b : Frame} {a : Act} {k : List Item} {cs : List Frame} {w : World} {c : Code} :
    step P (lone (b.atR a (.inScope c :: k)) cs w) = .next (lone (b.atR a k) cs w) :=
  step_lone_go (by simp [stepG, stepG.exec, Frame.atR])
theorem Goes.refl {B : Nat} {s : St} : Goes P B s s := fun b cs ρ a w ht hm hB => ⟨ρ, a, w, Steps.refl _ _, ht, rfl, hm, Moves.refl hB⟩
theorem Goes.trans {B : Nat} {s s' s'' : St} (h : Goes P B s s') (h' : Goes P B s' s'') : Goes P B s s'' := fun b cs ρ a w ht hm hB => by
  obtain ⟨ρ1, a1, w1, st1, ht1, hd1, hm1, mv1⟩ := h b cs ρ a w ht hm hB
  obtain ⟨ρ2, a2, w2, st2, ht2, hd2, hm2, mv2⟩ := h' b cs ρ1 a1 w1 ht1 hm1 mv1.nx
  exact ⟨ρ2, a2, w2, st1.trans st2, ht2, hd2.trans hd1, hm2, mv1.trans mv2⟩
theorem Goes.rets {B : Nat} {s s' : St} {tm' : List AV} {m' : MS} (h : Goes P B s s') (h' : Rets P B s' tm' m') : Rets P B s tm' m' := fun b cs ρ a w hro ht hm hB => by
  obtain ⟨ρ1, a1, w1, st1, ht1, hd1, hm1, mv1⟩ := h b cs ρ a w ht hm hB
  obtain ⟨ρ2, a2, w2, todo, st2, ht2, hd2, hm2, mv2⟩ := h' b cs ρ1 a1 w1 hro ht1 hm1 mv1.nx
  exact ⟨ρ2, a2, w2, todo, st1.trans st2, ht2, hd2.trans hd1, hm2, mv1.trans mv2⟩
theorem Goes.leaves {B : Nat} {s s' : St} {j : Option Code} {tm' : List AV} {m' : MS} (h : Goes P B s s') (h' : Leaves P B s' j tm' m') : Leaves P B s j tm' m' := fun b cs ρ a w ht hm hB => by
  obtain ⟨ρ1, a1, w1, st1, ht1, hd1, hm1, mv1⟩ := h b cs ρ a w ht hm hB
  obtain ⟨ρ2, a2, w2, todo, st2, hl, ht2, hd2, hm2, mv2⟩ := h' b cs ρ1 a1 w1 ht1 hm1 mv1.nx
  exact ⟨ρ2, a2, w2, todo, st1.trans st2, hl, ht2, hd2.trans hd1, hm2, mv1.trans mv2⟩
theorem Goes.ends {B : Nat} {s s' : St} {o : Out} (h : Goes P B s s') (h' : Ends P B s' o) : Ends P B s o := by
  cases o with
  | ret tm m => exact Goes.rets h h'
  | head todo tm m => exact Goes.trans h h'
  | left j tm m => exact Goes.leaves h h'
theorem Goes.step {B : Nat} {todo todo' : List Item} {tm : List AV} {m : MS} (h : ∀ (b : Frame) (cs : List Frame) (a : Act) (w : World) (ρ : Rho), AV.rels ρ m.nx tm a.tmps.toList → Steps P (lone (b.atR a todo) cs w) (lone (b.atR a todo') cs w)) : Goes P B ⟨todo, tm, m⟩ ⟨todo', tm, m⟩ :=
  fun b cs ρ a w ht hm hB => ⟨ρ, a, w, h b cs a w ρ ht, ht, rfl, hm, Moves.refl hB⟩
theorem maskA_rels {ρ : Rho} {nx : Nat} {live : List Nat} : ∀ {tm : List AV} {xs : List Value} (i : Nat), AV.rels ρ nx tm xs → AV.rels ρ nx (maskA live i tm) xs
  | [], xs, i, h => by simpa [maskA] using h
  | a :: r, xs, i, h => by
    simp only [AV.rels] at h
    obtain ⟨y, ys, rfl, h1, h2⟩ := h
    simp only [maskA, AV.rels]
    refine ⟨y, ys, rfl, ?_, maskA_rels (i + 1) h2⟩
    split
    · exact h1
    · simp [AV.rel]
/-- A region that draws: what is wanted of the reckoning of it. -/
def DSound (P : Program) (D : Array Oper → List AV → MS → Option (List AV × MS × List Bool)) : Prop := ∀ (rid : Nat) (ops : Array Oper) (tm : List AV) (m : MS) (tm' : List AV) (m' : MS) (bs : List Bool), D ops tm m = some (tm', m', bs) → bs.all id = true →
  ∀ (B : Nat) (ρ : Rho) (a : Act) (w : World) (Q : Exit → Act → World → Prop), AV.rels ρ m.nx tm a.tmps.toList → NoGd tm → MRel ρ m w → B ≤ m.nx →
    (∀ ρ' a' w', AV.rels ρ' m'.nx tm' a'.tmps.toList → a'.defers = a.defers → MRel ρ' m' w' → Moves B ρ ρ' m m' w w' → Q .normal a' w') → ∀ (r : Option Nat) (n : Nat), (Code.region rid ops true).wpIn (FW r) n P Q a w
theorem regA_goes {id : Nat} {ops : Array Oper} {draw : Bool} {k : List Item} {tm tm' : List AV} {m m' : MS} {bs : List Bool} {B : Nat} (hE : ESound P E) (hD : DSound P D) (h : regA P E D ops draw tm m = some (tm', m', bs)) (hbs : bs.all _root_.id = true) :
    Goes P B ⟨.code (.region id ops draw) :: k, tm, m⟩ ⟨k, tm', m'⟩ := fun b cs ρ a w ht hm hB => by
  have key : (Code.region id ops draw).wpIn (FW b.roundOf) 0 P (fun e a' w' => e = .normal ∧ ∃ ρ', AV.rels ρ' m'.nx tm' a'.tmps.toList ∧ a'.defers = a.defers ∧ MRel ρ' m' w' ∧ Moves B ρ ρ' m m' w w') a w := by
    cases draw with
    | false =>
      exact wpIn_region (seqA_ok (B := B) b.roundOf 0 hE h hbs (cleanA_rels ht) (cleanA_noGd tm) hm hB fun ρ' a' w' h1 h2 h3 h4 => ⟨rfl, ρ', h1, h2, h3, h4⟩)
    | true => exact hD id ops (cleanA tm) m tm' m' bs h hbs B ρ a w _ (cleanA_rels ht) (cleanA_noGd tm) hm hB (fun ρ' a' w' h1 h2 h3 h4 => ⟨rfl, ρ', h1, h2, h3, h4⟩) b.roundOf 0
  obtain ⟨e, a', w', ⟨rfl, ρ', h1, h2, h3, h4⟩, harr⟩ := key b k cs rfl trivial (fun _ h => by cases h)
  exact ⟨ρ', a', w', StepsIn.steps harr, h1, h2, h3, h4⟩
theorem look_keepB (m : MS) (k : Nat) (b : ABlk) : ∀ ns : List Nat, look (keepB m ns) k = some b → look m.bl k = some b
  | [], h => by cases h
  | l :: r, h => by
    simp only [keepB, look_cons] at h
    split at h
    · rename_i e; subst e; exact h
    · exact look_keepB m k b r h
section
variable {ρ : Rho} {nx n : Nat}
mutual
theorem AV.rel.down : ∀ (a : AV) (x : Value), a.locsB n = true → AV.rel ρ nx a x → AV.rel ρ n a x
  | .unk, _, _, _ => by simp only [AV.rel]
  | .val v, x, _, hx => by simpa only [AV.rel] using hx
  | .ptr l w r c, x, h, hx => by
    simp only [AV.rel, AV.locsB] at hx h ⊢
    exact ⟨by simpa [Nat.blt_eq] using h, hx.2⟩
  | .sl nn l w r s k cap, x, h, hx => by
    simp only [AV.rel, AV.locsB] at hx h ⊢
    exact ⟨by simpa [Nat.blt_eq] using h, hx.2⟩
  | .gd _ _ g v, x, h, hx => by
    simp only [AV.rel, AV.locsB] at hx h ⊢
    exact ⟨fun hg => AV.rel.down v x h (hx.1 hg), hx.2⟩
  | .clo f fs cs, x, h, hx => by
    simp only [AV.rel, AV.locsB, Bool.and_eq_true] at hx h ⊢
    obtain ⟨xs, ys, e, h1, h2⟩ := hx
    exact ⟨xs, ys, e, AV.rels.down fs xs h.1 h1, AV.rels.down cs ys h.2 h2⟩
  | .agg cs, x, h, hx => by
    simp only [AV.rel, AV.locsB] at hx h ⊢
    obtain ⟨xs, e, h1⟩ := hx
    exact ⟨xs, e, AV.rels.down cs xs h h1⟩
  | .tup cs, x, h, hx => by
    simp only [AV.rel, AV.locsB] at hx h ⊢
    obtain ⟨xs, e, h1⟩ := hx
    exact ⟨xs, e, AV.rels.down cs xs h h1⟩
  | .yld l, x, h, hx => by
    simp only [AV.rel, AV.locsB] at hx h ⊢
    exact ⟨by simpa [Nat.blt_eq] using h, hx.2⟩
theorem AV.rels.down : ∀ (as : List AV) (xs : List Value), AV.locsBs n as = true → AV.rels ρ nx as xs → AV.rels ρ n as xs
  | [], xs, _, hx => by simpa only [AV.rels] using hx
  | a :: as, xs, h, hx => by
    simp only [AV.rels, AV.locsBs, Bool.and_eq_true] at hx h ⊢
    obtain ⟨y, ys, e, h1, h2⟩ := hx
    exact ⟨y, ys, e, AV.rel.down a y h.1 h1, AV.rels.down as ys h.2 h2⟩
end
theorem locsBs_at : ∀ {l : List AV} {i : Nat} {a : AV}, AV.locsBs n l = true → l[i]? = some a → a.locsB n = true
  | [], i, a, _, h => by simp at h
  | b :: l, 0, a, h, hi => by
    simp only [AV.locsBs, Bool.and_eq_true] at h
    simp at hi; subst hi; exact h.1
  | b :: l, i + 1, a, h, hi => by
    simp only [AV.locsBs, Bool.and_eq_true] at h
    simp at hi; exact locsBs_at h.2 hi
theorem Cont.locsB_at {k : Cont} {r c : Nat} {a : AV} {b : Bool} (h : k.locsB n = true) (ha : k.at r c = some (a, b)) : a.locsB n = true := by
  have hcol : ∀ (cl : Col) (r : Nat) (a : AV) (b : Bool), cl.at r = (a, b) → a.locsB n = true := fun cl r a b h => by cases cl <;> cases h <;> rfl
  cases k with
  | cells l =>
    cases c <;> simp only [Cont.at] at ha
    · split at ha
      · rename_i hv; cases ha; exact locsBs_at h hv
      · cases ha
    · cases ha
  | col cl =>
    cases c <;> simp only [Cont.at] at ha
    · simp only [Option.some.injEq] at ha; exact hcol cl r a b ha
    · cases ha
  | rows cs =>
    simp only [Cont.at] at ha
    split at ha
    · simp only [Option.some.injEq] at ha; exact hcol _ r a b ha
    · cases ha
  | obj q => cases c <;> (simp only [Cont.at] at ha; cases ha)
theorem QObj.ok.down {q : QObj} {i : LI} {w : World} (h : (Cont.obj q).locsB n = true) (hq : q.ok ρ nx i w) : q.ok ρ n i w := by
  cases q with
  | glob g vs => exact hq
  | loop st pe tm ps asg body =>
    obtain ⟨l, h1, h2, h3, h4, h5⟩ := hq
    exact ⟨l, h1, h2, h3, AV.rels.down _ _ h h4, h5⟩
theorem blocksB_look : ∀ {l : List (Nat × Option ABlk)} {k : Nat} {b : ABlk}, blocksB n l = true → look l k = some b → k < n ∧ b.cont.locsB n = true
  | [], k, b, _, h => by cases h
  | (l, none) :: r, k, b, hb, h => by
    simp only [blocksB] at hb
    rw [look_cons] at h
    split at h
    · cases h
    · exact blocksB_look hb h
  | (l, some b') :: r, k, b, hb, h => by
    simp only [blocksB, Bool.and_eq_true] at hb
    rw [look_cons] at h
    split at h
    · rename_i e; subst e; cases h; exact ⟨by simpa [Nat.blt_eq] using hb.1, hb.2.1⟩
    · exact blocksB_look hb.2.2 h
theorem MRel.cut {m : MS} {w : World} {names : List Nat} (h : MRel ρ m w) (hb : blocksB n (keepB m names) = true) : MRel ρ ⟨keepB m names, n⟩ w :=
  ⟨fun l b hl => by
    obtain ⟨h1, h2⟩ := blocksB_look hb hl
    have h3 := (h.blk l b (look_keepB m l b names hl)).2
    exact ⟨h1, h3.lt, fun r c a ha => by
      obtain ⟨g1, x, g2, g3⟩ := h3.rel r c a ha
      exact ⟨g1, x, g2, AV.rel.down a x (Cont.locsB_at h2 ha) g3⟩, h3.free, h3.room, fun q hq => (h3.obj q hq).down (by rw [← hq]; exact h2)⟩,
   fun l b l' b' h1 h2 => h.apart l b l' b' (look_keepB m l b names h1) (look_keepB m l' b' names h2)⟩
end
/-- All cuts leave the first B names. -/
def cutsB (B : Nat) (cuts : List Cut) : Bool := cuts.all fun c => Nat.ble B c.2.2.2
theorem cutAt_nx {B k : Nat} {live names : List Nat} {nx : Nat} : ∀ {cuts : List Cut}, cutsB B cuts = true → cutAt cuts k = some (live, names, nx) → B ≤ nx
  | [], _, h => by cases h
  | (n, c) :: r, hb, h => by
    simp only [cutsB, List.all_cons, Bool.and_eq_true] at hb
    simp only [cutAt] at h
    split at h
    · cases h; exact Nat.le_of_ble_eq_true hb.1
    · exact cutAt_nx hb.2 h
theorem seg_keeps : ∀ (n : Nat) (c : Code) (tm : List AV) (m : MS) (tm' : List AV) (bs : List Bool), segA P E n c tm m = some (tm', bs) → Keeps (dstsC c) tm tm'
  | 0, c, tm, m, tm', bs, h => by cases h
  | n + 1, c, tm, m, tm', bs, h => by
    simp only [segA] at h
    split at h
    · cases h; exact Keeps.refl _ _
    · cases h; exact Keeps.refl _ _
    · rename_i a b
      split at h
      · rename_i t1 b1 h1
        split at h
        · rename_i t2 b2 h2
          cases h
          exact (seg_keeps n a _ _ _ _ h1).trans (seg_keeps n b _ _ _ _ h2)
        · cases h
      · cases h
    · split at h
      · split at h
        · obtain ⟨_, g2⟩ := seqRunP_eq _ _ _ _ _ h
          exact (cleanA_keeps tm).trans g2
        · cases h
      · cases h
    · rename_i b; exact seg_keeps n b _ _ _ _ h
    · rename_i id b; exact seg_keeps n b _ _ _ _ h
    · rename_i c x y
      split at h
      · split at h
        · rename_i t1 b1 t2 b2 h1 h2
          cases h
          obtain ⟨g1, g2⟩ := mergeT_keeps (ds := dstsC x ++ dstsC y) 0 tm t1 t2 (seg_keeps n x _ _ _ _ h1).len (seg_keeps n y _ _ _ _ h2).len
          exact ⟨g1, fun i a hi ha => .inr (g2 i a (by rw [Nat.zero_add]; exact hi) ha)⟩
        · cases h
      · cases h
    · cases h
theorem imps_all {g : Bool} {l : List Bool} (h : (imps g l).all id = true) (hg : g = true) : l.all id = true := by
  subst hg
  simpa [imps] using h
theorem seg_goes (hE : ESound P E) (hD : DSound P D) : ∀ (n : Nat) (c : Code) (tm : List AV) (m : MS) (tm' : List AV) (bs : List Bool), segA P E n c tm m = some (tm', bs) → bs.all id = true → ∀ (k : List Item) (B : Nat), Goes P B ⟨.code c :: k, tm, m⟩ ⟨k, tm', m⟩
  | 0, c, tm, m, tm', bs, h, _, k, B => by cases h
  | n + 1, c, tm, m, tm', bs, h, hbs, k, B => by
    simp only [segA] at h
    split at h
    · cases h; exact Goes.step fun b cs a w ρ _ => .one stepR_skip
    · cases h; exact Goes.step fun b cs a w ρ _ => .one stepR_label
    · rename_i a b
      split at h
      · rename_i t1 b1 h1
        split at h
        · rename_i t2 b2 h2
          cases h
          obtain ⟨g1, g2⟩ := all_app hbs
          exact Goes.trans (Goes.step fun b cs a w ρ _ => .one stepR_seq) (Goes.trans (seg_goes hE hD n a _ _ _ _ h1 g1 _ B) (seg_goes hE hD n b _ _ _ _ h2 g2 _ B))
        · cases h
      · cases h
    · rename_i id ops draw
      split at h
      · split at h
        · rename_i hg
          obtain ⟨g1, _⟩ := seqRunP_eq _ _ _ _ _ h
          refine regA_goes (D := D) hE hD ?_ hbs
          simp only [regA, seqA, hg, g1]
        · cases h
      · cases h
    · exact Goes.trans (Goes.step fun b cs a w ρ _ => .one stepR_scope) (Goes.trans (seg_goes hE hD n _ _ _ _ _ h hbs _ B) (Goes.step fun b cs a w ρ _ => .one stepR_inScope))
    · exact Goes.trans (Goes.step fun b cs a w ρ _ => .one stepR_block) (Goes.trans (seg_goes hE hD n _ _ _ _ _ h hbs _ B) (Goes.step fun b cs a w ρ _ => .one stepR_inBlock))
    · rename_i c x y
      split at h
      · rename_i t ht
        split at h
        · rename_i t1 b1 t2 b2 h1 h2
          cases h
          obtain ⟨g1, g2⟩ := all_app hbs
          have k1 := seg_keeps n x _ _ _ _ h1
          have k2 := seg_keeps n y _ _ _ _ h2
          have hst : Goes P B ⟨.code (.cond c x y) :: k, tm, m⟩ ⟨.code (if t then x else y) :: k, tm, m⟩ := Goes.step fun b cs a w ρ hr => .one (stepR_cond (by
            have := evA_ok hr c
            rw [ht] at this
            simpa only [AV.rel] using this))
          have hbr : Goes P B ⟨.code (if t then x else y) :: k, tm, m⟩ ⟨k, bif t then t1 else t2, m⟩ := by
            cases t with
            | true => exact seg_goes hE hD n x _ _ _ _ h1 (imps_all g1 rfl) k B
            | false => exact seg_goes hE hD n y _ _ _ _ h2 (imps_all g2 rfl) k B
          refine Goes.trans hst (Goes.trans hbr fun b cs ρ a w hr hm hB => ⟨ρ, a, w, Steps.refl _ _, ?_, rfl, hm, Moves.refl hB⟩)
          refine mergeT_ok 0 tm t1 t2 _ k1.len k2.len hr fun j v hj hv => ?_
          rw [Nat.zero_add] at hj
          simp only [List.mem_append, not_or] at hj
          cases t with
          | true => exact k1.at_ j v hj.1 hv
          | false => exact k2.at_ j v hj.2 hv
        · cases h
      · cases h
    · cases h
theorem run_ok {β : Type} {K : Out → List Bool → Option β} {B : Nat} (hE : ESound P E) (hD : DSound P D) (hC : cutsB B cuts = true) : ∀ (n : Nat) (todo : List Item) (tm : List AV) (m : MS) (acc : List Bool) (r : β), run P E D cuts K n todo tm m acc = some r →
    ∃ o bs, K o bs = some r ∧ (∃ l, bs = acc ++ l) ∧ (bs.all id = true → Ends P B ⟨todo, tm, m⟩ o)
  | 0, todo, tm, m, acc, r, h => by cases h
  | n + 1, todo, tm, m, acc, r, h => by
    have IH := fun todo tm m acc r h => run_ok (K := K) (B := B) hE hD hC n todo tm m acc r h
    have one : ∀ (todo' : List Item), run P E D cuts K n todo' tm m acc = some r → (∀ (b : Frame) (cs : List Frame) (a : Act) (w : World), step P (lone (b.atR a todo) cs w) = .next (lone (b.atR a todo') cs w)) → ∃ o bs, K o bs = some r ∧ (∃ l, bs = acc ++ l) ∧ (bs.all id = true → Ends P B ⟨todo, tm, m⟩ o) := fun todo' h' hs => by
      obtain ⟨o, bs, h0, h1, h2⟩ := IH _ _ _ _ _ h'
      exact ⟨o, bs, h0, h1, fun hb => Goes.ends (Goes.step fun b cs a w ρ _ => .one (hs b cs a w)) (h2 hb)⟩
    have hd : ∀ (todo' : List Item) (live names : List Nat) (nx k0 : Nat), cutAt cuts k0 = some (live, names, nx) → (AV.locsBs nx (maskA live 0 tm) && blocksB nx (keepB m names)) = true → K (Out.head todo' (maskA live 0 tm) ⟨keepB m names, nx⟩) acc = some r → (∀ (b : Frame) (cs : List Frame) (a : Act) (w : World), Steps P (lone (b.atR a todo) cs w) (lone (b.atR a todo') cs w)) → ∃ o bs, K o bs = some r ∧ (∃ l, bs = acc ++ l) ∧ (bs.all id = true → Ends P B ⟨todo, tm, m⟩ o) := fun todo' live names nx k0 hcc hk h' hs => by
      simp only [Bool.and_eq_true] at hk
      exact ⟨_, _, h', ⟨[], by simp⟩, fun _ b cs ρ a w ht hm hB => ⟨ρ, a, w, hs b cs a w, AV.rels.down _ _ hk.1 (maskA_rels 0 ht), rfl, hm.cut hk.2,
        ⟨fun _ _ => rfl, cutAt_nx hC hcc, rfl, rfl, rfl, Nat.le_refl _, fun _ _ _ => rfl, fun g ⟨l, b, h1, h2, h3⟩ => .inl ⟨l, b, look_keepB m l b names h1, h2, h3⟩⟩⟩⟩
    have rt : ∀ j, K (outA cuts j tm m) acc = some r → LeftAt todo j → (∀ (b : Frame) (cs : List Frame) (a : Act) (w : World), b.roundOf = none → step P (lone (b.atR a todo) cs w) = .next (lone { b.atR a todo with mode := .returning } cs w)) → ∃ o bs, K o bs = some r ∧ (∃ l, bs = acc ++ l) ∧ (bs.all id = true → Ends P B ⟨todo, tm, m⟩ o) := fun j h' hl hs => by
      unfold outA at h'
      split at h'
      · exact ⟨_, _, h', ⟨[], by simp⟩, fun _ b cs ρ a w ht hm hB => ⟨ρ, a, w, todo, Steps.refl _ _, hl, ht, rfl, hm, Moves.refl hB⟩⟩
      · exact ⟨_, _, h', ⟨[], by simp⟩, fun _ b cs ρ a w hro ht hm hB => ⟨ρ, a, w, todo, .one (hs b cs a w hro), ht, rfl, hm, Moves.refl hB⟩⟩
    simp only [run] at h
    split at h
    · exact rt _ h rfl fun b cs a w hro => stepR_end hro
    · split at h
      · exact rt _ h ⟨_, rfl⟩ fun b cs a w hro => stepR_ret hro
      · exact one _ h fun b cs a w => stepR_skip
      · exact one _ h fun b cs a w => stepR_label
      · exact one _ h fun b cs a w => stepR_seq
      · rename_i c x y
        split at h
        · rename_i tm' bs' hmrg
          have hseg : segA P E 1000 (.cond c x y) tm m = some (tm', bs') := by
            unfold mrgA at hmrg
            split at hmrg
            · exact hmrg
            · cases hmrg
          obtain ⟨o, bs, h0, ⟨l, hl⟩, h2⟩ := IH _ _ _ _ _ h
          refine ⟨o, bs, h0, ⟨bs' ++ l, by rw [hl, List.append_assoc]⟩, fun hb => Goes.ends (seg_goes hE hD _ _ _ _ _ _ hseg ?_ _ B) (h2 hb)⟩
          rw [hl] at hb
          exact (all_app (all_app hb).1).2
        split at h
        · rename_i t ht
          have hst : ∀ (b : Frame) (cs : List Frame) (a : Act) (w : World) (ρ : Rho) (k : List Item), AV.rels ρ m.nx tm a.tmps.toList → step P (lone (b.atR a (.code (.cond c x y) :: k)) cs w) = .next (lone (b.atR a (.code (if t then x else y) :: k)) cs w) := fun b cs a w ρ k hr => stepR_cond (by
            have := evA_ok hr c
            rw [ht] at this
            simpa only [AV.rel] using this)
          cases t with
          | true =>
            obtain ⟨o, bs, h0, h1, h2⟩ := IH _ _ _ _ _ h
            exact ⟨o, bs, h0, h1, fun hb => Goes.ends (Goes.step fun b cs a w ρ hr => .one (hst b cs a w ρ _ hr)) (h2 hb)⟩
          | false =>
            obtain ⟨o, bs, h0, h1, h2⟩ := IH _ _ _ _ _ h
            exact ⟨o, bs, h0, h1, fun hb => Goes.ends (Goes.step fun b cs a w ρ hr => .one (hst b cs a w ρ _ hr)) (h2 hb)⟩
        · cases h
      · exact one _ h fun b cs a w => stepR_block
      · split at h
        · rename_i hcc
          split at h
          · rename_i hk
            exact hd _ _ _ _ _ hcc hk h fun b cs a w => .one stepR_loop
          · cases h
        · exact one _ h fun b cs a w => stepR_loop
      · exact one _ h fun b cs a w => stepR_scope
      · split at h
        · rename_i hk
          exact one _ h fun b cs a w => stepR_exit hk
        · rename_i hk
          split at h
          · exact ⟨_, _, h, ⟨[], by simp⟩, fun _ b cs ρ a w ht hm hB => ⟨ρ, a, w, _, Steps.refl _ _, ⟨_, rfl, hk⟩, ht, rfl, hm, Moves.refl hB⟩⟩
          · cases h
      · split at h
        · rename_i hcc
          split at h
          · rename_i hk
            exact hd _ _ _ _ _ hcc hk h fun b cs a w => Steps.refl _ _
          · cases h
        · cases h
      · split at h
        · rename_i tm' m' bs' hreg
          obtain ⟨o, bs, h0, ⟨l, hl⟩, h2⟩ := IH _ _ _ _ _ h
          refine ⟨o, bs, h0, ⟨bs' ++ l, by rw [hl, List.append_assoc]⟩, fun hb => Goes.ends (regA_goes hE hD hreg ?_) (h2 hb)⟩
          rw [hl] at hb
          exact (all_app (all_app hb).1).2
        · cases h
      · cases h
    · exact one _ h fun b cs a w => stepR_inBlock
    · exact one _ h fun b cs a w => stepR_inScope
    · split at h
      · rename_i hcc
        split at h
        · rename_i hk
          exact hd _ _ _ _ _ hcc hk h fun b cs a w => .one stepR_inLoop
        · cases h
      · exact one _ h fun b cs a w => stepR_inLoop
    · cases h
/-- What is handed back. -/
def resOne (P : Program) (tm : List AV) (m : MS) : ResultVar → Option (AV × List Bool)
  | .tmp t => some (evA tm (.tmp t), [])
  | .cell a t => loadA P t m (evA tm (.tmp a))
def resAll (P : Program) (tm : List AV) (m : MS) : List ResultVar → Option (List AV × List Bool)
  | [] => some ([], [])
  | r :: rs => match resOne P tm m r with
    | some (v, b) => match resAll P tm m rs with
      | some (vs, bs) => some (v :: vs, b ++ bs)
      | none => none
    | none => none
def resA (P : Program) (fn : Func) (tm : List AV) (m : MS) : Option (AV × List Bool) := match resAll P tm m fn.results.toList with
  | some ([v], bs) => some (v, bs)
  | some (vs, bs) => some (.tup vs, bs)
  | none => none
theorem resAll_ok {ρ : Rho} {tm : List AV} {m : MS} {a : Act} {w : World} (ht : AV.rels ρ m.nx tm a.tmps.toList) (hm : MRel ρ m w) : ∀ (rs : List ResultVar) (vs : List AV) (bs : List Bool), resAll P tm m rs = some (vs, bs) → bs.all id = true →
    ∃ xs : List Value, (rs.mapM fun | .tmp t => pure (a.tmps.getD t undef) | .cell c t => do loadVar t (← asAddr (a.tmps.getD c undef)) : Sem (List Value)).run P w = .ok xs w ∧ AV.rels ρ m.nx vs xs
  | [], vs, bs, h, _ => by
    cases h
    exact ⟨[], by simp, by simp [AV.rels]⟩
  | r :: rs, vs, bs, h, hbs => by
    simp only [resAll] at h
    cases h1 : resOne P tm m r with
    | none => rw [h1] at h; cases h
    | some p =>
      obtain ⟨v, b⟩ := p
      rw [h1] at h
      dsimp only at h
      cases h2 : resAll P tm m rs with
      | none => rw [h2] at h; cases h
      | some q =>
        obtain ⟨vs', bs'⟩ := q
        rw [h2] at h
        cases h
        obtain ⟨b1, b2⟩ := all_app hbs
        obtain ⟨xs, g1, g2⟩ := resAll_ok ht hm rs vs' bs' h2 b2
        cases r with
        | tmp t =>
          simp only [resOne, Option.some.injEq, Prod.mk.injEq] at h1
          obtain ⟨rfl, rfl⟩ := h1
          refine ⟨a.tmps.getD t undef :: xs, ?_, by simp only [AV.rels]; exact ⟨_, _, rfl, evA_ok ht (.tmp t), g2⟩⟩
          simp only [List.mapM_cons, Sem.run_bind, Sem.run_pure, Result.andThen_ok, g1]
        | cell c t =>
          simp only [resOne] at h1
          obtain ⟨x, hx, hr⟩ := loadA_ok hm h1 (evA_ok ht (.tmp c)) b1
          simp only [Act.eval] at hx
          refine ⟨x :: xs, ?_, by simp only [AV.rels]; exact ⟨_, _, rfl, hr, g2⟩⟩
          have hx' : (do loadVar t (← asAddr (a.tmps.getD c undef)) : Sem Value).run P w = .ok x w := by
            unfold Instr.loadAt Instr.sureAddr at hx
            unfold asAddr
            generalize a.tmps.getD c undef = y at hx ⊢
            cases y <;> simp at hx ⊢
            rename_i q
            cases q <;> simp at hx ⊢
            exact hx
          simp only [List.mapM_cons, Sem.run_bind, Sem.run_pure, Result.andThen_ok, g1] at hx' ⊢
          rw [hx']
          simp only [Result.andThen_ok, g1]
theorem resA_ok {fn : Func} {ρ : Rho} {tm : List AV} {m : MS} {a : Act} {w : World} {v : AV} {bs : List Bool} (h : resA P fn tm m = some (v, bs)) (ht : AV.rels ρ m.nx tm a.tmps.toList) (hm : MRel ρ m w) (hbs : bs.all id = true) :
    PureOk P (results fn a.tmps) ρ m.nx w v := by
  unfold resA at h
  cases hr : resAll P tm m fn.results.toList with
  | none => rw [hr] at h; cases h
  | some p =>
    obtain ⟨vs, bs'⟩ := p
    rw [hr] at h
    have hbs' : bs' = bs := by
      split at h
      · rename_i e; cases e; cases h; rfl
      · rename_i e; cases e; cases h; rfl
      · rename_i e; cases e
    subst hbs'
    obtain ⟨xs, h1, h2⟩ := resAll_ok ht hm _ _ _ hr hbs
    have hrun : (fn.results.mapM fun | .tmp t => pure (a.tmps.getD t undef) | .cell c t => do loadVar t (← asAddr (a.tmps.getD c undef)) : Sem (Array Value)).run P w = .ok xs.toArray w := by
      rw [Array.mapM_eq_mapM_toList]
      simp only [Sem.run_map, h1, Result.andThen_ok]
    have hres : (results fn a.tmps).run P w = .ok (if h : xs.toArray.size = 1 then xs.toArray[0] else .tuple xs.toArray) w := by
      unfold results
      simp only [Sem.run_bind]
      exact congrArg (fun r : Result (Array Value) => r.andThen fun a w' => (pure (if h : a.size = 1 then a[0] else Value.tuple a) : Sem Value).run P w') hrun
    split at h
    · rename_i v1 _ e
      cases e
      cases h
      simp only [AV.rels] at h2
      obtain ⟨y, ys, rfl, g1, rfl⟩ := h2
      exact mkPure y (by rw [hres]; rfl) g1
    · rename_i vs1 _ hne e
      cases e
      cases h
      refine mkPure (.tuple xs.toArray) ?_ (by simp only [AV.rel]; exact ⟨xs, rfl, h2⟩)
      rw [hres, dif_neg]
      intro e1
      have hl := h2.len
      simp at e1
      rw [e1] at hl
      match vs, hl with
      | [v1], _ => exact hne v1 rfl
    · rename_i e; cases e
/-- The state at a function's begin. -/
def enterA (fn : Func) (c : Code) (args : List AV) (m : MS) : St := ⟨[.code c], args ++ List.replicate (fn.ntmps - args.length) .unk, m⟩
def conj : List Bool → Bool
  | [] => true
  | b :: r => b && conj r
theorem conj_all : ∀ {l : List Bool}, conj l = true → l.all id = true
  | [], _ => rfl
  | b :: r, h => by
    simp only [conj, Bool.and_eq_true] at h
    simp [h.1]
    simpa using conj_all h.2
/-- How a run ends: it hands a value back, or stands at a loop's head. -/
inductive Fin_ where
  | ret (v : AV) (m : MS) (chk : Bool)
  | head (todo : List Item) (tm : List AV) (m : MS) (chk : Bool)
/-- Only these names. -/
def MS.keep (m : MS) (ns : List Nat) (top : Nat) : MS := ⟨keepB m ns, top⟩
theorem MRel.keep {ρ : Rho} {m : MS} {w : World} (h : MRel ρ m w) (ns : List Nat) (top : Nat) (ht : m.nx ≤ top) : MRel ρ (m.keep ns top) w := h.less (m' := m.keep ns top) ht fun l b hb => look_keepB m l b ns hb
theorem Moves.kept {B : Nat} {ρ ρ' : Rho} {m m' : MS} {w w' : World} (h : Moves B ρ ρ' m m' w w') (ns : List Nat) (top : Nat) (ht : m'.nx ≤ top) : Moves B ρ ρ' m (m'.keep ns top) w w' :=
  ⟨h.ext, Nat.le_trans h.nx ht, h.os, h.tape, h.output, h.size, h.keep, fun g ⟨l, b, h1, h2, h3⟩ => h.fresh g ⟨l, b, look_keepB m' l b ns h1, h2, h3⟩⟩
def finA (P : Program) (fn : Func) (ns : List Nat) (top : Nat) : Out → List Bool → Option Fin_
  | .ret tm m, bs => match Nat.ble m.nx top with
    | true => match resA P fn tm m with
      | some (v, bs') => some (.ret v (m.keep ns top) (conj (bs ++ bs')))
      | none => none
    | false => none
  | .head todo tm m, bs => some (.head todo tm m (conj bs))
  | .left .., _ => none
def bodyOf (f : Func) : Code := match f.body with
  | some c => c
  | none => .skip
/-- A whole function, from its begin. -/
def fun_ (P : Program) (E : Env) (D : Array Oper → List AV → MS → Option (List AV × MS × List Bool)) (f : Func) (cuts : List Cut) (ns : List Nat) (top : Nat) (args : List AV) (m : MS) : Option Fin_ :=
  run P E D cuts (finA P f ns top) 1000000 (enterA f (bodyOf f) args m).todo (enterA f (bodyOf f) args m).tm m []
/-- From a loop's head on. -/
def from_ (P : Program) (E : Env) (D : Array Oper → List AV → MS → Option (List AV × MS × List Bool)) (f : Func) (cuts : List Cut) (ns : List Nat) (top : Nat) (todo : List Item) (tm : List AV) (m : MS) : Option Fin_ :=
  run P E D cuts (finA P f ns top) 1000000 todo tm m []
/-- The heads of the loops, one by one. -/
def headsOf : Code → List Item → List (List Item)
  | .seq a b, k => headsOf a (.code b :: k) ++ headsOf b k
  | .cond _ x y, k => headsOf x k ++ headsOf y k
  | .block id b, k => headsOf b (.inBlock id :: k)
  | .loop b, k => (.code b :: .inLoop b :: k) :: headsOf b (.inLoop b :: k)
  | .scope b, k => headsOf b (.inScope b :: k)
  | _, _ => []
def hd (f : Func) (i : Nat) : List Item := (headsOf (bodyOf f) []).getD i []
theorem AV.rels.up {ρ : Rho} {nx nx' : Nat} {as : List AV} {xs : List Value} (h : AV.rels ρ nx as xs) (hn : nx ≤ nx') : AV.rels ρ nx' as xs := AV.rels.ext (fun _ _ => rfl) hn _ _ h
theorem AV.rel.up {ρ : Rho} {nx nx' : Nat} {a : AV} {x : Value} (h : AV.rel ρ nx a x) (hn : nx ≤ nx') : AV.rel ρ nx' a x := AV.rel.ext (fun _ _ => rfl) hn _ _ h
theorem Goes.keep {B : Nat} {s : St} {todo : List Item} {tm : List AV} {m : MS} (h : Goes P B s ⟨todo, tm, m⟩) (ns : List Nat) (top : Nat) (hn : m.nx ≤ top) : Goes P B s ⟨todo, tm, m.keep ns top⟩ := fun b cs ρ a w ht hm hB => by
  obtain ⟨ρ', a', w', h1, h2, h3, h4, h5⟩ := h b cs ρ a w ht hm hB
  exact ⟨ρ', a', w', h1, h2.up hn, h3, h4.keep ns top hn, h5.kept ns top hn⟩
theorem from_head {f : Func} {ns : List Nat} {top : Nat} {todo todo' : List Item} {tm tm' : List AV} {m m' : MS} {B : Nat} (hE : ESound P E) (hD : DSound P D) (hC : cutsB B cuts = true) (h : from_ P E D f cuts ns top todo tm m = some (.head todo' tm' m' true)) : Goes P B ⟨todo, tm, m⟩ ⟨todo', tm', m'⟩ := by
  obtain ⟨o, bs, h0, _, h2⟩ := run_ok (B := B) hE hD hC _ _ _ _ _ _ h
  cases o with
  | ret tm1 m1 =>
    simp only [finA] at h0
    split at h0
    · split at h0 <;> cases h0
    · cases h0
  | head todo1 tm1 m1 =>
    simp only [finA, Option.some.injEq, Fin_.head.injEq] at h0
    obtain ⟨rfl, rfl, rfl, h3⟩ := h0
    exact h2 (conj_all h3)
  | left j1 tm1 m1 => cases h0
/-- From here the function hands this back. -/
def Gives_ (P : Program) (f : Func) (B : Nat) (s : St) (v : AV) (m' : MS) : Prop := ∀ (b : Frame) (cs : List Frame) (ρ : Rho) (a : Act) (w : World), b.roundOf = none → AV.rels ρ s.m.nx s.tm a.tmps.toList → MRel ρ s.m w → B ≤ s.m.nx →
  ∃ ρ' a' w' todo x, Steps P (lone (b.atR a s.todo) cs w) (lone { b.atR a' todo with mode := .returning } cs w') ∧ a'.defers = a.defers ∧ (results f a'.tmps).run P w' = .ok x w' ∧ AV.rel ρ' m'.nx v x ∧ MRel ρ' m' w' ∧ Moves B ρ ρ' s.m m' w w'
theorem Goes.gives {f : Func} {B : Nat} {s s' : St} {v : AV} {m' : MS} (h : Goes P B s s') (h' : Gives_ P f B s' v m') : Gives_ P f B s v m' := fun b cs ρ a w hro ht hm hB => by
  obtain ⟨ρ1, a1, w1, st1, ht1, hd1, hm1, mv1⟩ := h b cs ρ a w ht hm hB
  obtain ⟨ρ2, a2, w2, todo, x, st2, hd2, hx, hr, hm2, mv2⟩ := h' b cs ρ1 a1 w1 hro ht1 hm1 mv1.nx
  exact ⟨ρ2, a2, w2, todo, x, st1.trans st2, hd2.trans hd1, hx, hr, hm2, mv1.trans mv2⟩
theorem from_ret {f : Func} {ns : List Nat} {top : Nat} {todo : List Item} {tm : List AV} {m m' : MS} {v : AV} {B : Nat} (hE : ESound P E) (hD : DSound P D) (hC : cutsB B cuts = true) (h : from_ P E D f cuts ns top todo tm m = some (.ret v m' true)) : Gives_ P f B ⟨todo, tm, m⟩ v m' := by
  obtain ⟨o, bs, h0, _, h2⟩ := run_ok (B := B) hE hD hC _ _ _ _ _ _ h
  cases o with
  | ret tm1 m1 =>
    simp only [finA] at h0
    split at h0
    · rename_i hn
      have hn := Nat.le_of_ble_eq_true hn
      split at h0
      · rename_i v1 bs1 hr
        simp only [Option.some.injEq, Fin_.ret.injEq] at h0
        obtain ⟨rfl, rfl, h3⟩ := h0
        obtain ⟨b1, b2⟩ := all_app (conj_all h3)
        intro b cs ρ a w hro ht hm hB
        obtain ⟨ρ', a', w', todo', st, ht', hd', hm', mv⟩ := h2 b1 b cs ρ a w hro ht hm hB
        obtain ⟨x, hx1, hx2⟩ := resA_ok (P := P) hr ht' hm' b2
        exact ⟨ρ', a', w', todo', x, st, hd', hx1, hx2.up hn, hm'.keep ns top hn, mv.kept ns top hn⟩
      · cases h0
    · cases h0
  | head todo1 tm1 m1 => simp only [finA] at h0; cases h0
  | left j1 tm1 m1 => cases h0
theorem fsound {f g : FuncId} {fn : Func} {c : Code} {args : List AV} {m m' : MS} {v : AV} (hc : ∀ xs w, (callFunc f xs).run P w = .ok (.enter g xs) w) (hf : P.funcs[g]? = some fn) (hb : fn.body = some c) (h : Gives_ P fn m.nx (enterA fn c args m) v m') : FSound P f m args v m' := by
  intro ρ w xs hm hx
  refine .inl ⟨g, hc xs.toArray w, fun cs => ?_⟩
  let b : Frame := { (default : Frame) with fn := g, kind := .normal, roundOf := none }
  have hent : Frame.enter P g xs.toArray .normal = b.atR { tmps := xs.toArray ++ Array.replicate (fn.ntmps - xs.toArray.size) undef, defers := [] } [.code c] := by
    simp [Frame.enter, Frame.atR, hf, hb, b]
  have hrel : AV.rels ρ m.nx (args ++ List.replicate (fn.ntmps - args.length) .unk) (xs.toArray ++ Array.replicate (fn.ntmps - xs.toArray.size) undef).toList := by
    have e : (xs.toArray ++ Array.replicate (fn.ntmps - xs.toArray.size) undef).toList = xs ++ List.replicate (fn.ntmps - xs.length) undef := by simp
    rw [e]
    refine hx.append ?_
    have := AV.rels.unks (ρ := ρ) (nx := m.nx) (List.replicate (fn.ntmps - xs.length) undef)
    rw [List.length_replicate, ← hx.len] at this
    rw [← hx.len]
    exact this
  obtain ⟨ρ', a', w', todo, x, st, hd, hx1, hx2, hm', mv⟩ := h b cs ρ { tmps := xs.toArray ++ Array.replicate (fn.ntmps - xs.toArray.size) undef, defers := [] } w rfl hrel hm (Nat.le_refl _)
  refine ⟨.returned x, w', { b.atR a' todo with mode := .returning }, ⟨x, rfl, ρ', hx2, hm', mv⟩, ?_, rfl, rfl, hd, rfl, fn, hf, hx1⟩
  rw [hent]
  exact st
end
end Go.Proofs.YtnkpegdmbocgaaaDoor
