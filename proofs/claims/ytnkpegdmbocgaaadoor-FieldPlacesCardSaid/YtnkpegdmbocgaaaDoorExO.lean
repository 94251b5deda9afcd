/-
  A run along a chosen way: each test as it is said, under what must be so.
-/
import Derived.Test.YtnkpegdmbocgaaaDoorEx12
namespace Go.Proofs.YtnkpegdmbocgaaaDoor
open Go Go.RowKit
def runO {β : Type} (P : Program) (E : Env) (D : Array Oper → List AV → MS → Option (List AV × MS × List Bool)) (cuts : List Cut) (K : Out → List Bool → Option β) : Nat → List Nat → List Item → List AV → MS → List Bool → Option β
  | n, [], todo, tm, m, acc => run P E D cuts K n todo tm m acc
  | 0, _ :: _, _, _, _, _ => none
  | n + 1, q :: orc, todo, tm, m, acc => match todo with
    | [] => K (outA cuts none tm m) acc
    | .code c :: k => match c with
      | .ret => K (outA cuts (some .ret) tm m) acc
      | .skip => runO P E D cuts K n (q :: orc) k tm m acc
      | .label _ => runO P E D cuts K n (q :: orc) k tm m acc
      | .seq a b => runO P E D cuts K n (q :: orc) (.code a :: .code b :: k) tm m acc
      | .cond c x y => match evA tm c with
        | .val (.bool t) => match q with
          | 0 => runO P E D cuts K n orc (.code y :: k) tm m (acc ++ [!t])
          | 1 => runO P E D cuts K n orc (.code x :: k) tm m (acc ++ [t])
          | _ => bif t then runO P E D cuts K n orc (.code x :: k) tm m acc else runO P E D cuts K n orc (.code y :: k) tm m acc
        | _ => none
      | .block id b => runO P E D cuts K n (q :: orc) (.code b :: .inBlock id :: k) tm m acc
      | .loop b => match cutAt cuts k.length with
        | some (live, names, nx) => match AV.locsBs nx (maskA live 0 tm) && blocksB nx (keepB m names) with
          | true => K (.head (.code b :: .inLoop b :: k) (maskA live 0 tm) ⟨keepB m names, nx⟩) acc
          | false => none
        | none => runO P E D cuts K n (q :: orc) (.code b :: .inLoop b :: k) tm m acc
      | .scope b => runO P E D cuts K n (q :: orc) (.code b :: .inScope b :: k) tm m acc
      | .exit id => match exitTo id k with
        | some k' => runO P E D cuts K n (q :: orc) k' tm m acc
        | none => none
      | .region _ ops draw => match regA P E D ops draw tm m with
        | some (tm', m', bs) => runO P E D cuts K n (q :: orc) k tm' m' (acc ++ bs)
        | none => none
      | _ => none
    | .inBlock _ :: k => runO P E D cuts K n (q :: orc) k tm m acc
    | .inScope _ :: k => runO P E D cuts K n (q :: orc) k tm m acc
    | .inLoop b :: k => match cutAt cuts k.length with
      | some (live, names, nx) => match AV.locsBs nx (maskA live 0 tm) && blocksB nx (keepB m names) with
        | true => K (.head (.code b :: .inLoop b :: k) (maskA live 0 tm) ⟨keepB m names, nx⟩) acc
        | false => none
      | none => runO P E D cuts K n (q :: orc) (.code b :: .inLoop b :: k) tm m acc
    | _ => none
section
variable {P : Program} {E : Env} {D : Array Oper → List AV → MS → Option (List AV × MS × List Bool)} {cuts : List Cut}
theorem runO_nil {β : Type} {K : Out → List Bool → Option β} (n : Nat) (todo : List Item) (tm : List AV) (m : MS) (acc : List Bool) : runO P E D cuts K n [] todo tm m acc = run P E D cuts K n todo tm m acc := by
  cases n <;> rfl
theorem runO_ok {β : Type} {K : Out → List Bool → Option β} {B : Nat} (hE : ESound P E) (hD : DSound P D) (hC : cutsB B cuts = true) : ∀ (n : Nat) (orc : List Nat) (todo : List Item) (tm : List AV) (m : MS) (acc : List Bool) (r : β), runO P E D cuts K n orc todo tm m acc = some r →
    ∃ o bs, K o bs = some r ∧ (∃ l, bs = acc ++ l) ∧ (bs.all id = true → Ends P B ⟨todo, tm, m⟩ o)
  | n, [], todo, tm, m, acc, r, h => by
    rw [runO_nil] at h
    exact run_ok hE hD hC n todo tm m acc r h
  | 0, q :: orc, todo, tm, m, acc, r, h => by cases h
  | n + 1, q :: orc, todo, tm, m, acc, r, h => by
    have IH := fun todo tm m acc r h => runO_ok (K := K) (B := B) hE hD hC n (q :: orc) todo tm m acc r h
    have IH' := fun todo tm m acc r h => runO_ok (K := K) (B := B) hE hD hC n orc todo tm m acc r h
    have one : ∀ (todo' : List Item), runO P E D cuts K n (q :: orc) todo' tm m acc = some r → (∀ (b : Frame) (cs : List Frame) (a : Act) (w : World), step P (lone (b.atR a todo) cs w) = .next (lone (b.atR a todo') cs w)) → ∃ o bs, K o bs = some r ∧ (∃ l, bs = acc ++ l) ∧ (bs.all id = true → Ends P B ⟨todo, tm, m⟩ o) := fun todo' h' hs => by
      obtain ⟨o, bs, h0, h1, h2⟩ := IH _ _ _ _ _ h'
      exact ⟨o, bs, h0, h1, fun hb => Goes.ends (Goes.step fun b cs a w ρ _ => .one (hs b cs a w)) (h2 hb)⟩
    have hd : ∀ (todo' : List Item) (live names : List Nat) (nx k0 : Nat), cutAt cuts k0 = some (live, names, nx) → (AV.locsBs nx (maskA live 0 tm) && blocksB nx (keepB m names)) = true → K (Out.head todo' (maskA live 0 tm) ⟨keepB m names, nx⟩) acc = some r → (∀ (b : Frame) (cs : List Frame) (a : Act) (w : World), step P (lone (b.atR a todo) cs w) = .next (lone (b.atR a todo') cs w)) → ∃ o bs, K o bs = some r ∧ (∃ l, bs = acc ++ l) ∧ (bs.all id = true → Ends P B ⟨todo, tm, m⟩ o) := fun todo' live names nx k0 hcc hk h' hs => by
      simp only [Bool.and_eq_true] at hk
      exact ⟨_, _, h', ⟨[], by simp⟩, fun _ b cs ρ a w ht hm hB => ⟨ρ, a, w, .one (hs b cs a w), AV.rels.down _ _ hk.1 (maskA_rels 0 ht), rfl, hm.cut hk.2,
        ⟨fun _ _ => rfl, cutAt_nx hC hcc, rfl, rfl, rfl, Nat.le_refl _, fun _ _ _ => rfl, fun g ⟨l, b, h1, h2, h3⟩ => .inl ⟨l, b, look_keepB m l b names h1, h2, h3⟩⟩⟩⟩
    have rt : ∀ j, K (outA cuts j tm m) acc = some r → LeftAt todo j → (∀ (b : Frame) (cs : List Frame) (a : Act) (w : World), b.roundOf = none → step P (lone (b.atR a todo) cs w) = .next (lone { b.atR a todo with mode := .returning } cs w)) → ∃ o bs, K o bs = some r ∧ (∃ l, bs = acc ++ l) ∧ (bs.all id = true → Ends P B ⟨todo, tm, m⟩ o) := fun j h' hl hs => by
      unfold outA at h'
      split at h'
      · exact ⟨_, _, h', ⟨[], by simp⟩, fun _ b cs ρ a w ht hm hB => ⟨ρ, a, w, todo, Steps.refl _ _, hl, ht, rfl, hm, Moves.refl hB⟩⟩
      · exact ⟨_, _, h', ⟨[], by simp⟩, fun _ b cs ρ a w hro ht hm hB => ⟨ρ, a, w, todo, .one (hs b cs a w hro), ht, rfl, hm, Moves.refl hB⟩⟩
    simp only [runO] at h
    split at h
    · exact rt _ h rfl fun b cs a w hro => stepR_end hro
    · split at h
      · exact rt _ h ⟨_, rfl⟩ fun b cs a w hro => stepR_ret hro
      · exact one _ h fun b cs a w => stepR_skip
      · exact one _ h fun b cs a w => stepR_label
      · exact one _ h fun b cs a w => stepR_seq
      · rename_i c x y
        split at h
        · rename_i t ht
          have hst : ∀ (b : Frame) (cs : List Frame) (a : Act) (w : World) (ρ : Rho) (k : List Item), AV.rels ρ m.nx tm a.tmps.toList → step P (lone (b.atR a (.code (.cond c x y) :: k)) cs w) = .next (lone (b.atR a (.code (if t then x else y) :: k)) cs w) := fun b cs a w ρ k hr => stepR_cond (by
            have := evA_ok hr c
            rw [ht] at this
            simpa only [AV.rel] using this)
          split at h
          · obtain ⟨o, bs, h0, ⟨l, hl⟩, h2⟩ := IH' _ _ _ _ _ h
            refine ⟨o, bs, h0, ⟨[!t] ++ l, by rw [hl, List.append_assoc]⟩, fun hb => ?_⟩
            have hb' := hb
            rw [hl] at hb'
            have ht' := (all_app (all_app hb').1).2
            simp only [List.all_cons, List.all_nil, Bool.and_true, id, Bool.not_eq_true'] at ht'
            subst ht'
            exact Goes.ends (Goes.step fun b cs a w ρ hr => .one (hst b cs a w ρ _ hr)) (h2 hb)
          · obtain ⟨o, bs, h0, ⟨l, hl⟩, h2⟩ := IH' _ _ _ _ _ h
            refine ⟨o, bs, h0, ⟨[t] ++ l, by rw [hl, List.append_assoc]⟩, fun hb => ?_⟩
            have hb' := hb
            rw [hl] at hb'
            have ht' := (all_app (all_app hb').1).2
            simp only [List.all_cons, List.all_nil, Bool.and_true, id] at ht'
            subst ht'
            exact Goes.ends (Goes.step fun b cs a w ρ hr => .one (hst b cs a w ρ _ hr)) (h2 hb)
          · cases t with
            | true =>
              obtain ⟨o, bs, h0, h1, h2⟩ := IH' _ _ _ _ _ h
              exact ⟨o, bs, h0, h1, fun hb => Goes.ends (Goes.step fun b cs a w ρ hr => .one (hst b cs a w ρ _ hr)) (h2 hb)⟩
            | false =>
              obtain ⟨o, bs, h0, h1, h2⟩ := IH' _ _ _ _ _ h
              exact ⟨o, bs, h0, h1, fun hb => Goes.ends (Goes.step fun b cs a w ρ hr => .one (hst b cs a w ρ _ hr)) (h2 hb)⟩
        · cases h
      · exact one _ h fun b cs a w => stepR_block
      · split at h
        · rename_i hcc
          split at h
          · rename_i hk
            exact hd _ _ _ _ _ hcc hk h fun b cs a w => stepR_loop
          · cases h
        · exact one _ h fun b cs a w => stepR_loop
      · exact one _ h fun b cs a w => stepR_scope
      · split at h
        · rename_i hk
          exact one _ h fun b cs a w => stepR_exit hk
        · cases h
      · split at h
        · rename_i tm' m' bs' hreg
          obtain ⟨o, bs, h0, ⟨l, hl⟩, h2⟩ := IH _ _ _ _ _ h
          refine ⟨o, bs, h0, ⟨bs' ++ l, by rw [hl, List.append_assoc]⟩, fun hb => Goes.ends (regA_goes hE hD hreg ?_) (h2 hb)⟩
          rw [hl] at hb
          exact (all_app (all_app hb).1).2
        · cases h
      · cases h
    · exact one _ h fun b cs a w => stepR_inBlock
    · exact one _ h fun b cs a w => stepR_inScope
    · split at h
      · rename_i hcc
        split at h
        · rename_i hk
          exact hd _ _ _ _ _ hcc hk h fun b cs a w => stepR_inLoop
        · cases h
      · exact one _ h fun b cs a w => stepR_inLoop
    · cases h
end
/-- A whole function, its tests as said: 0 it fails, 1 it holds, 2 as it comes. -/
def FO_ (P : Program) (l : List (FuncId × Spec)) (f : Func) (cuts : List Cut) (ns : List Nat) (top : Nat) (orc : List Nat) (args : List AV) (m : MS) : Option Fin_ :=
  runO P (envOf l) (drawAB P (envOf l)) cuts (finA P f ns top) 1000000 orc (enterA f (bodyOf f) args m).todo (enterA f (bodyOf f) args m).tm m []
def HO_ (P : Program) (l : List (FuncId × Spec)) (f : Func) (cuts : List Cut) (ns : List Nat) (top : Nat) (orc : List Nat) (todo : List Item) (tm : List AV) (m : MS) : Option Fin_ :=
  runO P (envOf l) (drawAB P (envOf l)) cuts (finA P f ns top) 1000000 orc todo tm m []
section
variable {P : Program}
theorem HO_ret {l : List (FuncId × Spec)} {f : Func} {cuts : List Cut} {ns : List Nat} {top : Nat} {orc : List Nat} {todo : List Item} {tm : List AV} {m m' : MS} {v : AV} {B : Nat} {chk : Bool} (hE : ESound P (envOf l)) (hM : MixedOk P) (hC : cutsB B cuts = true)
    (h : HO_ P l f cuts ns top orc todo tm m = some (.ret v m' chk)) (hc : chk = true) : Gives_ P f B ⟨todo, tm, m⟩ v m' := by
  subst hc
  obtain ⟨o, bs, h0, _, h2⟩ := runO_ok (B := B) hE (drawAB_ok hE hM) hC _ _ _ _ _ _ _ h
  cases o with
  | ret tm1 m1 =>
    simp only [finA] at h0
    split at h0
    · rename_i hn
      have hn := Nat.le_of_ble_eq_true hn
      split at h0
      · rename_i v1 bs1 hr
        simp only [Option.some.injEq, Fin_.ret.injEq] at h0
        obtain ⟨rfl, rfl, h3⟩ := h0
        obtain ⟨b1, b2⟩ := all_app (conj_all h3)
        intro b cs ρ a w hro ht hm hB
        obtain ⟨ρ', a', w', todo', st, ht', hd', hm', mv⟩ := h2 b1 b cs ρ a w hro ht hm hB
        obtain ⟨x, hx1, hx2⟩ := resA_ok (P := P) hr ht' hm' b2
        exact ⟨ρ', a', w', todo', x, st, hd', hx1, hx2.up hn, hm'.keep ns top hn, mv.kept ns top hn⟩
      · cases h0
    · cases h0
  | head todo1 tm1 m1 => simp only [finA] at h0; cases h0
  | left j1 tm1 m1 => cases h0
theorem HO_head {l : List (FuncId × Spec)} {f : Func} {cuts : List Cut} {ns : List Nat} {top : Nat} {orc : List Nat} {todo todo' : List Item} {tm tm' : List AV} {m m' : MS} {B : Nat} {chk : Bool} (hE : ESound P (envOf l)) (hM : MixedOk P) (hC : cutsB B cuts = true)
    (h : HO_ P l f cuts ns top orc todo tm m = some (.head todo' tm' m' chk)) (hc : chk = true) : Goes P B ⟨todo, tm, m⟩ ⟨todo', tm', m'⟩ := by
  subst hc
  obtain ⟨o, bs, h0, _, h2⟩ := runO_ok (B := B) hE (drawAB_ok hE hM) hC _ _ _ _ _ _ _ h
  cases o with
  | ret tm1 m1 =>
    simp only [finA] at h0
    split at h0
    · split at h0 <;> cases h0
    · cases h0
  | head todo1 tm1 m1 =>
    simp only [finA, Option.some.injEq, Fin_.head.injEq] at h0
    obtain ⟨rfl, rfl, rfl, h3⟩ := h0
    exact h2 (conj_all h3)
  | left j1 tm1 m1 => cases h0
theorem FO_ret {l : List (FuncId × Spec)} {f : Func} {c : Code} {cuts : List Cut} {ns : List Nat} {top : Nat} {orc : List Nat} {args : List AV} {m m' : MS} {v : AV} {chk : Bool} (hE : ESound P (envOf l)) (hM : MixedOk P) (hC : cutsB m.nx cuts = true) (hb : f.body = some c)
    (h : FO_ P l f cuts ns top orc args m = some (.ret v m' chk)) (hc : chk = true) : Gives_ P f m.nx (enterA f c args m) v m' := by
  have e : bodyOf f = c := by unfold bodyOf; rw [hb]
  unfold FO_ at h
  rw [e] at h
  exact HO_ret hE hM hC h hc
theorem FO_head {l : List (FuncId × Spec)} {f : Func} {c : Code} {cuts : List Cut} {ns : List Nat} {top : Nat} {orc : List Nat} {args : List AV} {m m' : MS} {todo : List Item} {tm : List AV} {chk : Bool} (hE : ESound P (envOf l)) (hM : MixedOk P) (hC : cutsB m.nx cuts = true) (hb : f.body = some c)
    (h : FO_ P l f cuts ns top orc args m = some (.head todo tm m' chk)) (hc : chk = true) : Goes P m.nx (enterA f c args m) ⟨todo, tm, m'⟩ := by
  have e : bodyOf f = c := by unfold bodyOf; rw [hb]
  unfold FO_ at h
  rw [e] at h
  exact HO_head hE hM hC h hc
end
end Go.Proofs.YtnkpegdmbocgaaaDoor
