/-
  What is said of functions, taken together; a call on some of the names; loops.
-/
import Derived.Test.YtnkpegdmbocgaaaDoorExD
namespace Go.Proofs.YtnkpegdmbocgaaaDoor
open Go Go.RowKit

mutual
def AV.ground : AV → Bool
  | .unk => true
  | .val _ => true
  | .ptr .. => false
  | .sl .. => false
  | .gd _ _ _ v => AV.ground v
  | .clo _ a b => AV.grounds a && AV.grounds b
  | .agg cs => AV.grounds cs
  | .tup cs => AV.grounds cs
  | .yld _ => false
def AV.grounds : List AV → Bool
  | [] => true
  | a :: r => AV.ground a && AV.grounds r
end
section
variable {ρ ρ' : Rho} {nx nx' : Nat}
mutual
theorem AV.ground_rel : ∀ (a : AV) (x : Value), a.ground = true → AV.rel ρ nx a x → AV.rel ρ' nx' a x
  | .unk, _, _, _ => by simp only [AV.rel]
  | .val v, x, _, hx => by simpa only [AV.rel] using hx
  | .ptr l w r c, x, h, hx => by simp [AV.ground] at h
  | .sl nn l w r s n cap, x, h, hx => by simp [AV.ground] at h
  | .gd _ _ g v, x, h, hx => by
    simp only [AV.rel, AV.ground] at hx h ⊢
    exact ⟨fun hg => AV.ground_rel v x h (hx.1 hg), hx.2⟩
  | .clo f fs cs, x, h, hx => by
    simp only [AV.rel, AV.ground, Bool.and_eq_true] at hx h ⊢
    obtain ⟨xs, ys, e, h1, h2⟩ := hx
    exact ⟨xs, ys, e, AV.grounds_rels fs xs h.1 h1, AV.grounds_rels cs ys h.2 h2⟩
  | .agg cs, x, h, hx => by
    simp only [AV.rel, AV.ground] at hx h ⊢
    obtain ⟨xs, e, h1⟩ := hx
    exact ⟨xs, e, AV.grounds_rels cs xs h h1⟩
  | .tup cs, x, h, hx => by
    simp only [AV.rel, AV.ground] at hx h ⊢
    obtain ⟨xs, e, h1⟩ := hx
    exact ⟨xs, e, AV.grounds_rels cs xs h h1⟩
  | .yld l, x, h, hx => by simp [AV.ground] at h
theorem AV.grounds_rels : ∀ (as : List AV) (xs : List Value), AV.grounds as = true → AV.rels ρ nx as xs → AV.rels ρ' nx' as xs
  | [], xs, _, hx => by simpa only [AV.rels] using hx
  | a :: as, xs, h, hx => by
    simp only [AV.rels, AV.grounds, Bool.and_eq_true] at hx h ⊢
    obtain ⟨y, ys, e, h1, h2⟩ := hx
    exact ⟨y, ys, e, AV.ground_rel a y h.1 h1, AV.grounds_rels as ys h.2 h2⟩
end
def Cont.ground : Cont → Bool
  | .cells l => AV.grounds l
  | .col _ => true
  | .rows _ => true
  | .obj (.glob _ _) => true
  | .obj (.loop ..) => false
theorem grounds_at : ∀ {l : List AV} {i : Nat} {a : AV}, AV.grounds l = true → l[i]? = some a → a.ground = true
  | [], i, a, _, h => by simp at h
  | b :: l, 0, a, h, hi => by
    simp only [AV.grounds, Bool.and_eq_true] at h
    simp at hi; subst hi; exact h.1
  | b :: l, i + 1, a, h, hi => by
    simp only [AV.grounds, Bool.and_eq_true] at h
    simp at hi; exact grounds_at h.2 hi
theorem Col.at_ground (c : Col) (r : Nat) : (c.at r).1.ground = true := by cases c <;> rfl
theorem Cont.ground_at {k : Cont} {r c : Nat} {a : AV} {b : Bool} (h : k.ground = true) (ha : k.at r c = some (a, b)) : a.ground = true := by
  cases k with
  | cells l =>
    cases c <;> simp only [Cont.at] at ha
    · split at ha
      · rename_i hv; cases ha; exact grounds_at h hv
      · cases ha
    · cases ha
  | col cl =>
    cases c <;> simp only [Cont.at] at ha
    · have := Col.at_ground cl r; cases hh : cl.at r; rw [hh] at this ha; cases ha; exact this
    · cases ha
  | rows cs =>
    simp only [Cont.at] at ha
    split at ha
    · rename_i cl _
      have := Col.at_ground cl r; cases hh : cl.at r; rw [hh] at this ha; cases ha; exact this
    · cases ha
  | obj q => cases c <;> (simp only [Cont.at] at ha; cases ha)
theorem QObj.ok.ok_ground {q : QObj} {i : LI} {w : World} (h : (Cont.obj q).ground = true) (hq : q.ok ρ nx i w) : q.ok ρ' nx' i w := by
  cases q with
  | glob g vs => exact hq
  | loop st pe tm ps asg body => cases h
theorem Cont.rel_ground {k : Cont} {cell : Nat → Option Value} (h : k.ground = true) (hr : k.rel ρ nx cell) : k.rel ρ' nx' cell := fun r c a ha => by
  obtain ⟨h1, x, h2, h3⟩ := hr r c a ha
  exact ⟨h1, x, h2, AV.ground_rel a x (Cont.ground_at h ha) h3⟩
end

def lookF {α : Type} : List (FuncId × α) → FuncId → Option α
  | [], _ => none
  | (f, g) :: r, k => match Nat.beq f k with
    | true => some g
    | false => lookF r k
abbrev Spec := MS → List AV → Res
def envOf (l : List (FuncId × Spec)) : Env := fun f m args => match f with
  | some f => match lookF l f with
    | some g => g m args
    | none => none
  | none => none
section
variable {P : Program}
def SpecOk (P : Program) (f : FuncId) (g : Spec) : Prop := ∀ m args v mo bs, g m args = some (v, mo, bs) → bs.all id = true → FSound P f m args v (mo.getD m)
theorem env_nil : ESound P (envOf []) := ⟨(fun f m args v mo bs h _ => by cases h), (fun m args v mo bs h _ => by cases h)⟩
theorem env_cons {f : FuncId} {g : Spec} {l : List (FuncId × Spec)} (hg : SpecOk P f g) (hl : ESound P (envOf l)) : ESound P (envOf ((f, g) :: l)) := by
 refine ⟨fun k m args v mo bs h hb => ?_, (fun m args v mo bs h _ => by cases h)⟩
 unfold envOf at h
 simp only [lookF] at h
 by_cases e : f = k
 · subst e
   simp only [Nat.beq_refl] at h
   exact hg m args v mo bs h hb
 · rw [nbeq_ne e] at h
   exact hl.fn k m args v mo bs h hb
theorem calls_of {g : FuncId} {fn : Func} {c : Code} {args : List AV} {m m' : MS} {v : AV} (hf : P.funcs[g]? = some fn) (hb : fn.body = some c) (h : Gives_ P fn m.nx (enterA fn c args m) v m')
    {ρ : Rho} {w : World} {xs : List Value} (hm : MRel ρ m w) (hx : AV.rels ρ m.nx args xs) : Calls P g xs.toArray w fun e w' => ∃ ρ' x, e = .returned x ∧ AV.rel ρ' m'.nx v x ∧ MRel ρ' m' w' ∧ Moves m.nx ρ ρ' m m' w w' := by
  intro cs
  let b : Frame := { (default : Frame) with fn := g, kind := .normal, roundOf := none }
  have hent : Frame.enter P g xs.toArray .normal = b.atR { tmps := xs.toArray ++ Array.replicate (fn.ntmps - xs.toArray.size) undef, defers := [] } [.code c] := by
    simp [Frame.enter, Frame.atR, hf, hb, b]
  have hrel : AV.rels ρ m.nx (args ++ List.replicate (fn.ntmps - args.length) .unk) (xs.toArray ++ Array.replicate (fn.ntmps - xs.toArray.size) undef).toList := by
    have e : (xs.toArray ++ Array.replicate (fn.ntmps - xs.toArray.size) undef).toList = xs ++ List.replicate (fn.ntmps - xs.length) undef := by simp
    rw [e]
    refine hx.append ?_
    have := AV.rels.unks (ρ := ρ) (nx := m.nx) (List.replicate (fn.ntmps - xs.length) undef)
    rw [List.length_replicate, ← hx.len] at this
    rw [← hx.len]
    exact this
  obtain ⟨ρ', a', w', todo, x, st, hd, hx1, hx2, hm', mv⟩ := h b cs ρ { tmps := xs.toArray ++ Array.replicate (fn.ntmps - xs.toArray.size) undef, defers := [] } w rfl hrel hm (Nat.le_refl _)
  refine ⟨.returned x, w', { b.atR a' todo with mode := .returning }, ⟨ρ', x, rfl, hx2, hm', mv⟩, ?_, rfl, rfl, hd, rfl, fn, hf, hx1⟩
  rw [hent]
  exact st
def allRo : List (Nat × Option ABlk) → Bool
  | [] => true
  | (_, none) :: r => allRo r
  | (_, some b) :: r => !b.wr && allRo r
theorem allRo_look : ∀ {l : List (Nat × Option ABlk)} {k : Nat} {b : ABlk}, allRo l = true → look l k = some b → b.wr = false
  | [], k, b, _, h => by cases h
  | (l, o) :: r, k, b, ha, h => by
    rw [look_cons] at h
    cases o with
    | none =>
      simp only [allRo] at ha
      split at h
      · cases h
      · exact allRo_look ha h
    | some b' =>
      simp only [allRo, Bool.and_eq_true, Bool.not_eq_true'] at ha
      split at h
      · cases h; exact ha.1
      · exact allRo_look ha.2 h
/-- What was there stays, where nothing may be written. -/
theorem MRel.later {ρ : Rho} {m : MS} {w w' : World} (h : MRel ρ m w) (hs : w.heap.size ≤ w'.heap.size) (hk : ∀ g, g < w.heap.size → w'.heap[g]? = w.heap[g]?) : MRel ρ m w' :=
  ⟨fun l b hl => ⟨(h.blk l b hl).1, by
    have h2 := (h.blk l b hl).2
    rcases h2.lt with hlt | hv
    · exact h2.ext (fun _ _ => rfl) (Nat.le_refl _) hs (hk _ hlt)
    · exact ABlk.ok.any hv _⟩, h.apart⟩
/-- A call on some names alone, all for reading, whose answer holds no name. -/
theorem lift_pure {f : FuncId} {m m1 m1' : MS} {args args1 : List AV} {v : AV} (h : FSound P f m1 args1 v m1') (hro : allRo m1.bl = true) (hv : v.ground = true)
    (hsim : ∀ (ρ : Rho) (w : World) (xs : List Value), MRel ρ m w → AV.rels ρ m.nx args xs → ∃ ρ1, MRel ρ1 m1 w ∧ AV.rels ρ1 m1.nx args1 xs) : FSound P f m args v m := by
  intro ρ w xs hm hx
  obtain ⟨ρ1, hm1, hx1⟩ := hsim ρ w xs hm hx
  refine Went.mono (h ρ1 w xs hm1 hx1) fun x w' ⟨ρ', hr, _, mv⟩ => ?_
  have hno : ∀ g, ¬ Wr ρ1 m1 g := fun g ⟨l, b, h1, h2, _⟩ => by rw [allRo_look hro h1] at h2; cases h2
  have hk : ∀ g, g < w.heap.size → w'.heap[g]? = w.heap[g]? := fun g hg => mv.keep g hg (hno g)
  exact ⟨ρ, AV.ground_rel _ _ hv hr, hm.later mv.size hk, ⟨fun _ _ => rfl, Nat.le_refl _, mv.os, mv.tape, mv.output, mv.size, fun g hg _ => hk g hg, fun g hg => .inl hg⟩⟩
/-- An entry outside that looks at plain values alone. -/
theorem plain_fn {f : FuncId} {m : MS} {args : List AV} {v : AV} (hv : v.ground = true) (h : ∀ (ρ : Rho) (xs : List Value) (w : World), AV.rels ρ m.nx args xs → ∃ x, (callFunc f xs.toArray).run P w = .ok (.value x) w ∧ AV.rel ρ m.nx v x) : FSound P f m args v m := fun ρ w xs hm hx => by
  obtain ⟨x, h1, h2⟩ := h ρ xs w hx
  exact .inr ⟨x, w, h1, ρ, h2, hm, Moves.refl (Nat.le_refl _)⟩
def noMem : MS := ⟨[], 0⟩
theorem mrel_none {ρ : Rho} {w : World} {n : Nat} : MRel ρ ⟨[], n⟩ w := ⟨(fun l b h => by cases h), (fun l b l' b' h => by cases h)⟩
/-- The same where no name is handed over. -/
theorem lift_ground {f : FuncId} {m m1' : MS} {args : List AV} {v : AV} (h : FSound P f noMem args v m1') (ha : AV.grounds args = true) (hv : v.ground = true) : FSound P f m args v m :=
  lift_pure h rfl hv fun ρ _ _ _ hx => ⟨ρ, mrel_none, AV.grounds_rels _ _ ha hx⟩
/-- A law that answers true, on arguments that are for reading alone. -/
theorem law_true {g : FuncId} {m m' : MS} {args : List AV} {w : World} {xs : List Value} {ρ : Rho} {fn : Func} {c : Code} (hf : P.funcs[g]? = some fn) (hb : fn.body = some c) (h : Gives_ P fn m.nx (enterA fn c args m) (.val (.bool true)) m') (hro : allRo m.bl = true)
    (hm : MRel ρ m w) (hx : AV.rels ρ m.nx args xs) : Calls P g xs.toArray w fun e w' => e = .returned (.bool true) ∧ Below w.heap.size w w' := by
  refine Calls.mono (calls_of hf hb h hm hx) fun e w' ⟨ρ', x, he, hr, _, mv⟩ => ?_
  have hno : ∀ g, ¬ Wr ρ m g := fun g ⟨l, b, h1, h2, _⟩ => by rw [allRo_look hro h1] at h2; cases h2
  simp only [AV.rel] at hr
  subst hr
  exact ⟨he, ⟨mv.os, mv.tape, mv.output, mv.size, fun k hk => mv.keep k hk (hno k)⟩⟩
/-- A whole function: what it hands back. -/
theorem gives_of {E : Env} {D : Array Oper → List AV → MS → Option (List AV × MS × List Bool)} {f : Func} {c : Code} {cuts : List Cut} {ns : List Nat} {top : Nat} {args : List AV} {m m' : MS} {v : AV} {chk : Bool} (hE : ESound P E) (hD : DSound P D) (hC : cutsB m.nx cuts = true) (hb : f.body = some c)
    (h : fun_ P E D f cuts ns top args m = some (.ret v m' chk)) (hc : chk = true) : Gives_ P f m.nx (enterA f c args m) v m' := by
  subst hc
  have e : bodyOf f = c := by unfold bodyOf; rw [hb]
  unfold fun_ at h
  rw [e] at h
  exact from_ret hE hD hC h
theorem goes_of {E : Env} {D : Array Oper → List AV → MS → Option (List AV × MS × List Bool)} {f : Func} {c : Code} {cuts : List Cut} {ns : List Nat} {top : Nat} {args : List AV} {m m' : MS} {todo : List Item} {tm : List AV} {chk : Bool} (hE : ESound P E) (hD : DSound P D) (hC : cutsB m.nx cuts = true) (hb : f.body = some c)
    (h : fun_ P E D f cuts ns top args m = some (.head todo tm m' chk)) (hc : chk = true) : Goes P m.nx (enterA f c args m) ⟨todo, tm, m'⟩ := by
  subst hc
  have e : bodyOf f = c := by unfold bodyOf; rw [hb]
  unfold fun_ at h
  rw [e] at h
  exact from_head hE hD hC h
/-- A name for a slice that came in. -/
theorem MRel.view {ρ : Rho} {m : MS} {w : World} {l : Nat} {b : ABlk} (h : MRel ρ m w) (hl : look m.bl l = some b) (hg : b.cont.ground = true) (ρ1 : Rho) (nx1 : Nat) : (⟨false, false, b.cont⟩ : ABlk).ok ρ1 nx1 (ρ l) w := by
  have h2 := (h.blk l b hl).2
  exact ⟨h2.lt.imp id (fun hv => ⟨rfl, rfl, hv.2.2⟩), Cont.rel_ground hg h2.rel, (fun hw => by cases hw), (fun ho => by cases ho), fun q hq => (h2.obj q hq).ok_ground (by rw [← hq]; exact hg)⟩
theorem mrel_one {ρ : Rho} {w : World} {b : ABlk} (hb : b.ok ρ 1 (ρ 0) w) : MRel ρ ⟨[(0, some b)], 1⟩ w := by
  refine ⟨fun l b' hl => ?_, fun l b1 l' b2 h1 h2 _ hne => ?_⟩
  · rw [look_cons] at hl
    split at hl
    · rename_i e; subst e; cases hl; exact ⟨Nat.lt_succ_self _, hb⟩
    · cases hl
  · rw [look_cons] at h1 h2
    split at h1
    · rename_i e; subst e
      rw [if_neg (Ne.symm hne)] at h2
      cases h2
    · cases h1
theorem mrel_two {ρ : Rho} {w : World} {b b' : ABlk} (hb : b.ok ρ 2 (ρ 0) w) (hb' : b'.ok ρ 2 (ρ 1) w) (h0 : b.wr = false) (h1 : b'.wr = false) : MRel ρ ⟨[(0, some b), (1, some b')], 2⟩ w := by
  have key : ∀ l x, look [(0, some b), (1, some b')] l = some x → (l = 0 ∧ x = b) ∨ (l = 1 ∧ x = b') := fun l x hl => by
    rw [look_cons] at hl
    split at hl
    · rename_i e; cases hl; exact .inl ⟨e.symm, rfl⟩
    · rw [look_cons] at hl
      split at hl
      · rename_i e; cases hl; exact .inr ⟨e.symm, rfl⟩
      · cases hl
  refine ⟨fun l x hl => ?_, fun l x l' y hx _ hw _ => ?_⟩
  · rcases key l x hl with ⟨rfl, rfl⟩ | ⟨rfl, rfl⟩
    · exact ⟨by show (0 : Nat) < 2; omega, hb⟩
    · exact ⟨by show (1 : Nat) < 2; omega, hb'⟩
  · rcases key l x hx with ⟨rfl, rfl⟩ | ⟨rfl, rfl⟩
    · rw [h0] at hw; cases hw
    · rw [h1] at hw; cases hw
/-- A loop whose every round goes on, up to one that ends it. -/
theorem Goes.iter {B : Nat} (S : Nat → St) (n : Nat) (h : ∀ k, k < n → Goes P B (S k) (S (k + 1))) : ∀ k, k ≤ n → Goes P B (S k) (S n) := fun k hk => by
  have : ∀ j k, k + j = n → Goes P B (S k) (S n) := by
    intro j
    induction j with
    | zero => intro k hk; have : k = n := by omega
              subst this; exact Goes.refl
    | succ j ih => intro k hk; exact (h k (by omega)).trans (ih (k + 1) (by omega))
  exact this (n - k) k (by omega)
end
abbrev vi (z : Int) : AV := .val (.int .i64 z)
abbrev vu (z : Int) : AV := .val (.int .u64 z)
abbrev vc (z : Int) : AV := .val (.int .u8 z)
abbrev vb (z : Bool) : AV := .val (.bool z)
abbrev vs (z : ByteArray) : AV := .val (.string z)
/-- A whole function, over what is said of those that it calls. -/
def F_ (P : Program) (l : List (FuncId × Spec)) (f : Func) (cuts : List Cut) (ns : List Nat) (top : Nat) (args : List AV) (m : MS) : Option Fin_ := fun_ P (envOf l) (drawAB P (envOf l)) f cuts ns top args m
/-- The same from a loop's head on. -/
def H_ (P : Program) (l : List (FuncId × Spec)) (f : Func) (cuts : List Cut) (ns : List Nat) (top : Nat) (todo : List Item) (tm : List AV) (m : MS) : Option Fin_ := from_ P (envOf l) (drawAB P (envOf l)) f cuts ns top todo tm m
section
variable {P : Program}
theorem F_ret {l : List (FuncId × Spec)} {f : Func} {c : Code} {cuts : List Cut} {ns : List Nat} {top : Nat} {args : List AV} {m m' : MS} {v : AV} (hE : ESound P (envOf l)) (hm : MixedOk P) (hC : cutsB m.nx cuts = true) (hb : f.body = some c)
    (h : F_ P l f cuts ns top args m = some (.ret v m' true)) : Gives_ P f m.nx (enterA f c args m) v m' := gives_of hE (drawAB_ok hE hm) hC hb h rfl
theorem F_head {l : List (FuncId × Spec)} {f : Func} {c : Code} {cuts : List Cut} {ns : List Nat} {top : Nat} {args : List AV} {m m' : MS} {todo : List Item} {tm : List AV} (hE : ESound P (envOf l)) (hm : MixedOk P) (hC : cutsB m.nx cuts = true) (hb : f.body = some c)
    (h : F_ P l f cuts ns top args m = some (.head todo tm m' true)) : Goes P m.nx (enterA f c args m) ⟨todo, tm, m'⟩ := goes_of hE (drawAB_ok hE hm) hC hb h rfl
theorem H_ret {l : List (FuncId × Spec)} {f : Func} {cuts : List Cut} {ns : List Nat} {top : Nat} {todo : List Item} {tm : List AV} {m m' : MS} {v : AV} {B : Nat} (hE : ESound P (envOf l)) (hm : MixedOk P) (hC : cutsB B cuts = true)
    (h : H_ P l f cuts ns top todo tm m = some (.ret v m' true)) : Gives_ P f B ⟨todo, tm, m⟩ v m' := from_ret hE (drawAB_ok hE hm) hC h
theorem H_head {l : List (FuncId × Spec)} {f : Func} {cuts : List Cut} {ns : List Nat} {top : Nat} {todo todo' : List Item} {tm tm' : List AV} {m m' : MS} {B : Nat} (hE : ESound P (envOf l)) (hm : MixedOk P) (hC : cutsB B cuts = true)
    (h : H_ P l f cuts ns top todo tm m = some (.head todo' tm' m' true)) : Goes P B ⟨todo, tm, m⟩ ⟨todo', tm', m'⟩ := from_head hE (drawAB_ok hE hm) hC h
/-- A function of plain values, from what its text hands back. -/
theorem pure_fn {l : List (FuncId × Spec)} {f g : FuncId} {fn : Func} {c : Code} {args : List AV} {m m' : MS} {v : AV} {cuts : List Cut} {ns : List Nat} {top : Nat} (hE : ESound P (envOf l)) (hm : MixedOk P) (hc : ∀ xs w, (callFunc f xs).run P w = .ok (.enter g xs) w) (hf : P.funcs[g]? = some fn) (hb : fn.body = some c)
    (h : F_ P l fn cuts ns top args noMem = some (.ret v m' true)) (ha : AV.grounds args = true) (hv : v.ground = true) (hC : cutsB 0 cuts = true := by rfl) : FSound P f m args v m :=
  lift_ground (fsound hc hf hb (F_ret hE hm hC hb h)) ha hv
end
end Go.Proofs.YtnkpegdmbocgaaaDoor
