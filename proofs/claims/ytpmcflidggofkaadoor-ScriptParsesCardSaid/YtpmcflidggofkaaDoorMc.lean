/-
  The executor: what a function's text reckons to, and why it is so.
-/
import Derived.Test.YtpmcflidggofkaaDoorMb
namespace Go.Proofs.YtpmcflidggofkaaDoor
open Go Go.RowKit

/-- The parameters of a round. -/
def setPs : List AV → List Nat → List AV → Option (List AV)
  | tm, [], [] => some tm
  | tm, p :: ps, a :: as => setPs (tm.set p a) ps as
  | _, _, _ => none
theorem setPs_rels {ρ : Rho} {nx : Nat} : ∀ {ps : List Nat} {as tm tm' : List AV} {ys : List Value} {arr : Array Value}, setPs tm ps as = some tm' → AV.rels ρ nx tm arr.toList → AV.rels ρ nx as ys →
    ps.length = ys.length ∧ AV.rels ρ nx tm' ((ps.zip ys).foldl (fun (t : Array Value) p => t.setIfInBounds p.1 p.2) arr).toList
  | [], [], tm, tm', ys, arr, h, ht, hy => by
    simp only [AV.rels] at hy
    subst hy
    cases h
    exact ⟨rfl, ht⟩
  | [], _ :: _, tm, tm', ys, arr, h, _, _ => by cases h
  | _ :: _, [], tm, tm', ys, arr, h, _, _ => by cases h
  | p :: ps, a :: as, tm, tm', ys, arr, h, ht, hy => by
    simp only [AV.rels] at hy
    obtain ⟨y, zs, rfl, h1, h2⟩ := hy
    simp only [setPs] at h
    obtain ⟨e, g⟩ := setPs_rels (arr := arr.setIfInBounds p y) h (by rw [Array.toList_setIfInBounds]; exact ht.set h1) h2
    exact ⟨by simp [e], by simpa using g⟩
/-- Loops are ones that may be written. -/
def loopsW : List (Nat × Option ABlk) → Bool
  | [] => true
  | (_, none) :: r => loopsW r
  | (_, some b) :: r => (match b.cont with
    | .obj (.loop ..) => b.wr
    | _ => true) && loopsW r
theorem loopsW_look : ∀ {l : List (Nat × Option ABlk)} {k : Nat} {b : ABlk} {st pe tm ps asg body}, loopsW l = true → look l k = some b → b.cont = .obj (.loop st pe tm ps asg body) → b.wr = true
  | [], k, b, _, _, _, _, _, _, _, h, _ => by cases h
  | (l, none) :: r, k, b, _, _, _, _, _, _, ha, h, hc => by
    simp only [loopsW] at ha
    rw [look_cons] at h
    split at h
    · cases h
    · exact loopsW_look ha h hc
  | (l, some b') :: r, k, b, _, _, _, _, _, _, ha, h, hc => by
    simp only [loopsW, Bool.and_eq_true] at ha
    rw [look_cons] at h
    split at h
    · cases h
      rw [hc] at ha
      exact ha.1
    · exact loopsW_look ha.2 h hc
def finY : Out → List Bool → Option (Option Code × MS × List Bool)
  | .left j _ m, bs => some (j, m, bs)
  | _, _ => none
def stN : Option Code → Nat
  | none => 0
  | some _ => 1
/-- What is set ahead of a round. -/
def asgA (P : Program) (E : Env) : Code → List AV → MS → Option (List AV × MS × List Bool)
  | .skip, tm, m => some (tm, m, [])
  | .region _ ops draw, tm, m => regA P E (drawAB P E) ops draw tm m
  | .seq a b, tm, m => match asgA P E a tm m with
    | some (tm1, m1, bs1) => match asgA P E b tm1 m1 with
      | some (tm2, m2, bs2) => some (tm2, m2, bs1 ++ bs2)
      | none => none
    | none => none
  | _, _, _ => none
/-- One round, in place. -/
def yieldE (P : Program) (E : Env) (orc : List Nat := []) : Spec := fun m args => match args with
  | .yld L :: as => match look m.bl L with
    | some ⟨true, false, .obj (.loop 0 none tm ps asg body)⟩ => match setPs tm ps as with
      | some tm1 => match Nat.ble m.nx 1000000000 with
        | true => match asgA P E asg tm1 ⟨upd m.bl L none, m.nx⟩ with
          | some (tm2, m2, bs2) => match loopsW m2.bl with
            | true => match runO P E (drawAB P E) [rndC] finY 1000000 orc [.code body] tm2 m2 [] with
              | some (j, m', bs) => match loopsW m'.bl with
                | true => some (.val (.bool j.isNone), some ⟨upd m'.bl L (some ⟨true, false, .obj (.loop (stN j) j tm ps asg body)⟩), m'.nx⟩, bs2 ++ bs)
                | false => none
              | none => none
            | false => none
          | none => none
        | false => none
      | none => none
    | _ => none
  | _ => none
section
variable {P : Program}
theorem steps_fw {m m' : Machine} (r : Option Nat) (h : Steps P m m') : StepsIn (Machine.fenced P (FW r)) P m m' :=
  (StepsIn.of_steps h).mono fun m _ => by
    intro g _
    exact ⟨(fun h => by cases h), Or.inl trivial, fun _ _ => trivial, fun _ h => by cases h⟩
/-- A block that may be written is written, by no name's leave. -/
theorem MRel.poke {ρ : Rho} {m : MS} {w w' : World} {L : Nat} {b : ABlk} (h : MRel ρ m w) (hl : look m.bl L = some b) (hw : b.wr = true) (hsz : w'.heap.size = w.heap.size) (hk : ∀ g, g ≠ (ρ L).b → w'.heap[g]? = w.heap[g]?) : MRel ρ ⟨upd m.bl L none, m.nx⟩ w' := by
  have key : ∀ l b', look (upd m.bl L none) l = some b' → l ≠ L ∧ look m.bl l = some b' := fun l b' h => by
    rw [look_upd] at h
    split at h
    · cases h
    · rename_i e; exact ⟨Ne.symm e, h⟩
  refine ⟨fun l b' hl' => ?_, fun l1 b1 l2 b2 h1 h2 => h.apart l1 b1 l2 b2 (key _ _ h1).2 (key _ _ h2).2⟩
  obtain ⟨hne, hl'⟩ := key l b' hl'
  obtain ⟨g1, g2⟩ := h.blk l b' hl'
  refine ⟨g1, ?_⟩
  by_cases hv : b'.void
  · exact ABlk.ok.any hv _
  · exact g2.ext (fun _ _ => rfl) (Nat.le_refl _) (by rw [hsz]; exact Nat.le_refl _) (hk _ (h.apart L b l b' hl hl' hw hne hv))
/-- What is there at all is no loop. -/
theorem not_at {ρ : Rho} {m : MS} {w : World} {l g : Nat} {b : ABlk} {lp : Loop} (h : MRel ρ m w) (hl : look m.bl l = some b) (hg : w.heap[g]? = some (.loop lp)) (hw : b.wr = true → (ρ l).b ≠ g) (hlp : ∀ st pe tm ps asg body, b.cont = .obj (.loop st pe tm ps asg body) → b.wr = true) (hnv : ¬ b.void) : (ρ l).b ≠ g := fun e => by
  obtain ⟨_, hok⟩ := h.blk l b hl
  cases hwr : b.wr with
  | true => exact hw hwr e
  | false =>
    have hop : b.op = false := by
      cases ho : b.op with
      | false => rfl
      | true => have := (hok.room ho).1; rw [hwr] at this; cases this
    have hno : ∀ q, b.cont ≠ .obj q := fun q hq => by
      cases q with
      | glob g' vs =>
        obtain ⟨h1, _, c, t, fz, h2, _⟩ := hok.obj _ hq
        rw [← h1, e, hg] at h2
        cases h2
      | loop st pe tm ps asg body => have := hlp _ _ _ _ _ _ hq; rw [hwr] at this; cases this
      | typed t0 l0 =>
        have h2 := (hok.obj _ hq).2
        rw [e] at h2
        simp only [World.shape?, hg] at h2
        cases h2
      | trow t0 s0 =>
        obtain ⟨_, cur, h2, _⟩ := hok.obj _ hq
        rw [e, hg] at h2
        cases h2
    refine hnv ⟨hwr, hop, hno, fun r c a ha => ?_⟩
    obtain ⟨_, x, hx, _⟩ := hok.rel r c a ha
    have hx : w.cell? ⟨(ρ l).b, (ρ l).o + (r * b.cont.width + c), none⟩ = some x := hx
    rw [e] at hx
    simp only [World.cell?, hg] at hx
    cases hx
theorem asgA_goes {E : Env} (hE : ESound P E) (hM : MixedOk P) {B : Nat} : ∀ (asg : Code) {tm tm' : List AV} {m m' : MS} {bs : List Bool} {k : List Item} (h : asgA P E asg tm m = some (tm', m', bs)) (hbs : bs.all id = true), Goes P B ⟨.code asg :: k, tm, m⟩ ⟨k, tm', m'⟩
  | .skip, tm, tm', m, m', bs, k, h, hbs => by
    simp only [asgA] at h
    cases h; exact Goes.step fun b cs a w ρ _ => .one stepR_skip
  | .region _ ops draw, tm, tm', m, m', bs, k, h, hbs => by
    simp only [asgA] at h
    exact regA_goes hE (drawAB_ok hE hM) h hbs
  | .seq a b, tm, tm', m, m', bs, k, h, hbs => by
    simp only [asgA] at h
    split at h
    · rename_i tm1 m1 bs1 h1
      split at h
      · rename_i tm2 m2 bs2 h2
        cases h
        obtain ⟨b1, b2⟩ := all_app hbs
        exact Goes.trans (Goes.step fun b cs a w ρ _ => .one stepR_seq) (Goes.trans (asgA_goes hE hM _ h1 b1) (asgA_goes hE hM _ h2 b2))
      · cases h
    · cases h
  | .ret, _, _, _, _, _, _, h, _ => by simp [asgA] at h
  | .label _, _, _, _, _, _, _, h, _ => by simp [asgA] at h
  | .cond .., _, _, _, _, _, _, h, _ => by simp [asgA] at h
  | .block .., _, _, _, _, _, _, h, _ => by simp [asgA] at h
  | .loop _, _, _, _, _, _, _, h, _ => by simp [asgA] at h
  | .scope _, _, _, _, _, _, _, h, _ => by simp [asgA] at h
  | .exit _, _, _, _, _, _, _, h, _ => by simp [asgA] at h
  | .rangeFunc .., _, _, _, _, _, _, h, _ => by simp [asgA] at h
/-- No name is where something is written. -/
theorem MRel.aside {ρ : Rho} {m : MS} {w w' : World} {g : Nat} (h : MRel ρ m w) (hout : ∀ l b, look m.bl l = some b → ¬ b.void → (ρ l).b ≠ g) (hsz : w'.heap.size = w.heap.size) (hk : ∀ h, h ≠ g → w'.heap[h]? = w.heap[h]?) : MRel ρ m w' :=
  ⟨fun l b hl => ⟨(h.blk l b hl).1, by
    by_cases hv : b.void
    · exact ABlk.ok.any hv _
    · exact (h.blk l b hl).2.ext (fun _ _ => rfl) (Nat.le_refl _) (by rw [hsz]; exact Nat.le_refl _) (hk _ (hout l b hl hv))⟩, h.apart⟩
theorem yieldE_ok {E : Env} {orc : List Nat} (hE : ESound P E) (hM : MixedOk P) {m : MS} {args : List AV} {v : AV} {mo : Option MS} {bs : List Bool} (h : yieldE P E orc m args = some (v, mo, bs)) (hbs : bs.all id = true) : YSound P m args v (mo.getD m) := by
  intro ρ w xs hm hx
  unfold yieldE at h
  split at h <;> try cases h
  rename_i L as
  split at h <;> try cases h
  rename_i tm ps asg body hL
  split at h <;> try cases h
  rename_i tm1 hset
  split at h <;> try cases h
  rename_i hnx
  split at h <;> try cases h
  rename_i tm2 mA bsA hasg
  split at h <;> try cases h
  rename_i hlwA
  split at h <;> try cases h
  rename_i j m' bs' hrun
  split at h <;> try cases h
  rename_i hlw
  obtain ⟨hbsA, hbs⟩ := all_app hbs
  simp only [AV.rels, AV.rel] at hx
  obtain ⟨_, ys, rfl, ⟨hLn, rfl⟩, hys⟩ := hx
  obtain ⟨_, hok⟩ := hm.blk L _ hL
  obtain ⟨lp, hg, hst, hpe, htm, hps, has, hbd⟩ := hok.obj _ rfl
  have hlt : (ρ L).b < w.heap.size := (Array.getElem?_eq_some_iff.1 hg).1
  obtain ⟨hlen, hrel⟩ := setPs_rels (arr := lp.tmps) hset htm hys
  refine ⟨(ρ L).b, ys, rfl, fun r n => ?_⟩
  have hy := run_yield (P := P) (args := ys.toArray) hg (by rw [hps]; simp [hlen])
  refine ⟨_, _, _, _, _, hy, trivial, fun c cs _ => ?_⟩
  let b : Frame := { (default : Frame) with fn := lp.fn, kind := .normal, roundOf := some (ρ L).b }
  let arr := (lp.params.zip ys.toArray).foldl (fun tmps (p : Tmp × Value) => tmps.setIfInBounds p.1 p.2) lp.tmps
  have hb0 : Frame.round (ρ L).b lp.fn arr lp.assign lp.body .normal = b.atR { tmps := arr, defers := [] } [.code lp.assign, .beginRound, .code lp.body] := by
    simp [Frame.round, Frame.atR, b]
  have harr : AV.rels ρ m.nx tm1 arr.toList := by
    have e : arr = ((ps.zip ys).foldl (fun (t : Array Value) p => t.setIfInBounds p.1 p.2) lp.tmps) := by
      show (lp.params.zip ys.toArray).foldl _ lp.tmps = _
      rw [hps]
      simp
    rw [e]; exact hrel
  -- what is set ahead
  have hlt0 : (ρ L).b < w.heap.size := hlt
  have hm0 : MRel ρ ⟨upd m.bl L none, m.nx⟩ w := hm.poke hL rfl rfl (fun _ _ => rfl)
  have hnw0 : ¬ Wr ρ ⟨upd m.bl L none, m.nx⟩ (ρ L).b := fun ⟨l', b', h1, h3, h4⟩ => by
    simp only [look_upd] at h1
    split at h1
    · cases h1
    · rename_i e; exact hm.apart L _ l' b' hL h1 rfl (Ne.symm e) (wr_not_void h3) h4
  obtain ⟨ρA, aA, wA, stA, htA, hdA, hmA, mvA⟩ := asgA_goes (B := m.nx) (k := [.beginRound, .code lp.body]) hE hM _ hasg hbsA b (c :: cs) ρ { tmps := arr, defers := [] } w harr hm0 (Nat.le_refl _)
  have hgA : wA.heap[(ρ L).b]? = some (.loop lp) := by rw [mvA.keep _ hlt hnw0]; exact hg
  have hltA : (ρ L).b < wA.heap.size := (Array.getElem?_eq_some_iff.1 hgA).1
  have hρA : ρA L = ρ L := mvA.ext L hLn
  have hnwA : ¬ Wr ρA mA (ρ L).b := fun h => by
    rcases mvA.fresh _ h with h | h
    · exact hnw0 h
    · omega
  have houtA : ∀ l b', look mA.bl l = some b' → ¬ b'.void → (ρA l).b ≠ (ρ L).b := fun l b' hl' hnv =>
    not_at hmA hl' hgA (fun hw e => hnwA ⟨l, b', hl', hw, e⟩) (fun _ _ _ _ _ _ hc => loopsW_look hlwA hl' hc) hnv
  -- the loop is busy
  obtain ⟨w1, hw1⟩ : ∃ w1, w1 = wA.putObj (ρ L).b (.loop { lp with state := .busy }) := ⟨_, rfl⟩
  have hbr := run_beginRound (P := P) hgA (by rw [hst]; rfl)
  rw [← hw1] at hbr
  have hs1 : w1.heap.size = wA.heap.size := by rw [hw1]; simp
  have ho1 : ∀ g, g ≠ (ρ L).b → w1.heap[g]? = wA.heap[g]? := fun g hne => by rw [hw1]; exact World.putObj_heap_other hne
  have hg1 : w1.heap[(ρ L).b]? = some (.loop { lp with state := .busy }) := by rw [hw1]; exact World.putObj_heap_same hltA
  have hm1 : MRel ρA mA w1 := hmA.aside houtA hs1 ho1
  obtain ⟨o, bs1, h0, _, h2⟩ := runO_ok (B := m.nx) hE (drawAB_ok hE hM) (by simp only [cutsB, rndC, List.all_cons, List.all_nil, Bool.and_true]; exact hnx) _ _ _ _ _ _ _ hrun
  cases o with
  | ret t1 m1 => cases h0
  | head td t1 m1 => cases h0
  | left j1 t1 m1 =>
  simp only [finY, Option.some.injEq, Prod.mk.injEq] at h0
  obtain ⟨rfl, rfl, rfl⟩ := h0
  obtain ⟨ρ', a2, w2, todo, st, hleft, ht2, hd2, hm2, mv1⟩ := h2 hbs b (c :: cs) ρA aA w1 htA hm1 mvA.nx
  have hg2 : w2.heap[(ρ L).b]? = some (.loop { lp with state := .busy }) := by rw [mv1.keep _ (by rw [hs1]; exact hltA) hnwA]; exact hg1
  have hlt2 : (ρ L).b < w2.heap.size := (Array.getElem?_eq_some_iff.1 hg2).1
  have her := run_endRound (P := P) j1 hg2
  obtain ⟨w3, hw3⟩ : ∃ w3, w3 = w2.putObj (ρ L).b (.loop { lp with state := if j1.isNone then .ready else .done, pending := j1 }) := ⟨_, rfl⟩
  have her : (Instr.endRound (ρ L).b j1).run P w2 = .ok (.bool j1.isNone) w3 := by rw [hw3]; exact her
  have hs3 : w3.heap.size = w2.heap.size := by rw [hw3]; simp
  have ho3 : ∀ g, g ≠ (ρ L).b → w3.heap[g]? = w2.heap[g]? := fun g hne => by rw [hw3]; exact World.putObj_heap_other hne
  have hg3 : w3.heap[(ρ L).b]? = some (.loop { lp with state := if j1.isNone then .ready else .done, pending := j1 }) := by rw [hw3]; exact World.putObj_heap_same hlt2
  have hρL : ρ' L = ρ L := (mv1.ext L hLn).trans hρA
  have hext : ∀ l, l < m.nx → ρ' l = ρ l := fun l hl => (mv1.ext l hl).trans (mvA.ext l hl)
  have hWr2 : ∀ g, Wr ρ' m1 g → Wr ρ ⟨upd m.bl L none, m.nx⟩ g ∨ w.heap.size ≤ g := fun g hgw => by
    rcases mv1.fresh g hgw with h | h
    · exact mvA.fresh g h
    · have := mvA.size
      exact .inr (by omega)
  have hout : ∀ l b', look m1.bl l = some b' → ¬ b'.void → (ρ' l).b ≠ (ρ L).b := fun l b' hl' hnv =>
    not_at hm2 hl' hg2 (fun hw e => by
      rcases hWr2 (ρ L).b ⟨l, b', hl', hw, e⟩ with h | h
      · exact hnw0 h
      · omega) (fun _ _ _ _ _ _ hc => loopsW_look hlw hl' hc) hnv
  have key : ∀ l b', look (upd m1.bl L (some (⟨true, false, .obj (.loop (stN j1) j1 tm ps asg body)⟩ : ABlk))) l = some b' → (l = L ∧ b' = ⟨true, false, .obj (.loop (stN j1) j1 tm ps asg body)⟩) ∨ (l ≠ L ∧ look m1.bl l = some b') := fun l b' h => by
    rw [look_upd] at h
    split at h
    · rename_i e; cases h; exact .inl ⟨e.symm, rfl⟩
    · rename_i e; exact .inr ⟨Ne.symm e, h⟩
  refine ⟨.returned (.bool j1.isNone), w3, ⟨.bool j1.isNone, rfl, ρ', by simp only [AV.rel], ⟨fun l b' hl' => ?_, fun l1 b1 l2 b2 e1 e2 hw hne hnv => ?_⟩, ⟨hext, mv1.nx, ?_, ?_, ?_, ?_, fun g hg' hn' => ?_, fun g ⟨l', b', e1, e2, e3⟩ => ?_⟩⟩, ?_⟩
  · rcases key l b' hl' with ⟨rfl, rfl⟩ | ⟨hne, hl'⟩
    · refine ⟨Nat.lt_of_lt_of_le hLn mv1.nx, ?_⟩
      rw [hρL]
      refine ⟨.inl (by rw [hs3]; exact hlt2), fun r c a ha => by cases c <;> (simp only [Cont.at] at ha; cases ha), fun _ j => by simp only [World.frozen?, hg3], (fun h => by cases h), fun q hq => ?_⟩
      cases hq
      refine ⟨_, hg3, ?_, rfl, AV.rels.ext hext mv1.nx _ _ htm, hps, has, hbd⟩
      cases j1 <;> rfl
    · obtain ⟨g1, g2⟩ := hm2.blk l b' hl'
      refine ⟨g1, ?_⟩
      by_cases hv : b'.void
      · exact ABlk.ok.any hv _
      · exact g2.ext (fun _ _ => rfl) (Nat.le_refl _) (by rw [hs3]; exact Nat.le_refl _) (ho3 _ (hout l b' hl' hv))
  · rcases key l1 b1 e1 with ⟨rfl, rfl⟩ | ⟨hn1, f1⟩
    · rcases key l2 b2 e2 with ⟨rfl, _⟩ | ⟨hn2, f2⟩
      · exact absurd rfl hne
      · rw [hρL]; exact hout l2 b2 f2 hnv
    · rcases key l2 b2 e2 with ⟨rfl, rfl⟩ | ⟨hn2, f2⟩
      · rw [hρL]; exact Ne.symm (hout l1 b1 f1 (wr_not_void hw))
      · exact hm2.apart l1 b1 l2 b2 f1 f2 hw hne hnv
  · rw [hw3]; exact mv1.os.trans (by rw [hw1]; exact mvA.os)
  · rw [hw3]; exact mv1.tape.trans (by rw [hw1]; exact mvA.tape)
  · rw [hw3]; exact mv1.output.trans (by rw [hw1]; exact mvA.output)
  · rw [hs3]; have h1 := mv1.size; have h2 := mvA.size; omega
  · have hne : g ≠ (ρ L).b := fun e => hn' ⟨L, _, hL, rfl, e.symm⟩
    have hn0 : ¬ Wr ρ ⟨upd m.bl L none, m.nx⟩ g := fun ⟨l', b', e1, e2, e3⟩ => hn' ⟨l', b', by
      simp only [look_upd] at e1
      split at e1
      · cases e1
      · exact e1, e2, e3⟩
    have hsA := mvA.size
    rw [ho3 g hne, mv1.keep g (by omega) (fun h => by
      rcases mvA.fresh _ h with h | h
      · exact hn0 h
      · omega), ho1 g hne, mvA.keep g hg' hn0]
  · rcases key l' b' e1 with ⟨rfl, rfl⟩ | ⟨hne, e1⟩
    · rw [hρL] at e3
      exact .inl ⟨_, _, hL, rfl, e3⟩
    · rcases hWr2 g ⟨l', b', e1, e2, e3⟩ with ⟨l2, b2, f1, f2, f3⟩ | h
      · refine .inl ⟨l2, b2, ?_, f2, f3⟩
        simp only [look_upd] at f1
        split at f1
        · cases f1
        · exact f1
      · exact .inr h
  · refine steps_fw r ?_
    show Steps P (lone (Frame.round (ρ L).b lp.fn arr lp.assign lp.body .normal) (c :: cs) w) _
    rw [hb0, has]
    refine Steps.trans stA (Steps.trans (.one (stepR_beginRound rfl hbr)) ?_)
    rw [hbd]
    refine Steps.trans st ?_
    cases j1 with
    | none =>
      have : todo = [] := hleft
      subst this
      exact .one (stepR_round_end rfl rfl her)
    | some cj =>
      cases cj <;> try exact hleft.elim
      case ret => obtain ⟨k, rfl⟩ := hleft; exact .one (stepR_round_ret rfl rfl her)
      case exit id => obtain ⟨k, rfl, hx⟩ := hleft; exact .one (stepR_round_exit rfl rfl hx her)
/-- Functions' contracts, and one's rounds. -/
def envY (y : Spec) (l : List (FuncId × Spec)) : Env := fun f m args => match f with
  | some f => envOf l (some f) m args
  | none => y m args
theorem envY_okE {l : List (FuncId × Spec)} {E : Env} {orc : List Nat} (hE : ESound P (envOf l)) (hE' : ESound P E) (hM : MixedOk P) : ESound P (envY (yieldE P E orc) l) :=
  ⟨fun f m args v mo bs h hb => hE.fn f m args v mo bs h hb, fun m args v mo bs h hb => yieldE_ok hE' hM h hb⟩
abbrev yieldS (P : Program) (l : List (FuncId × Spec)) (orc : List Nat := []) : Spec := yieldE P (envOf l) orc
theorem envY_ok {l l' : List (FuncId × Spec)} {orc : List Nat} (hE : ESound P (envOf l)) (hE' : ESound P (envOf l')) (hM : MixedOk P) : ESound P (envY (yieldS P l' orc) l) := envY_okE hE hE' hM
theorem results_tmps {f : Func} {tmps : Array Value} {x : Value} {w w' : World} (hf : (f.results.toList.all fun r => match r with | .tmp _ => true | _ => false) = true) (h : (results f tmps).run P w = .ok x w) : (results f tmps).run P w' = .ok x w' := by
  have hm : ∀ (l : List ResultVar), (l.all fun r => match r with | .tmp _ => true | _ => false) = true → ∃ vs : List Value, ∀ w, (l.mapM fun | .tmp t => pure (tmps.getD t undef) | .cell c t => do loadVar t (← asAddr (tmps.getD c undef)) : Sem (List Value)).run P w = .ok vs w := fun l => by
    induction l with
    | nil => intro _; exact ⟨[], fun w => by simp⟩
    | cons r l ih =>
      intro hl
      simp only [List.all_cons, Bool.and_eq_true] at hl
      obtain ⟨vs, hv⟩ := ih hl.2
      cases r with
      | tmp t => exact ⟨tmps.getD t undef :: vs, fun w => by simp only [List.mapM_cons, Sem.run_bind, Sem.run_pure, Result.andThen_ok, hv]⟩
      | cell a t => simp at hl
  obtain ⟨vs, hv⟩ := hm _ hf
  have hr : ∀ w, (results f tmps).run P w = .ok (if h : vs.toArray.size = 1 then vs.toArray[0] else .tuple vs.toArray) w := fun w => by
    have hrun : (f.results.mapM fun | .tmp t => pure (tmps.getD t undef) | .cell c t => do loadVar t (← asAddr (tmps.getD c undef)) : Sem (Array Value)).run P w = .ok vs.toArray w := by
      rw [Array.mapM_eq_mapM_toList]
      simp only [Sem.run_map, hv, Result.andThen_ok]
    unfold results
    simp only [Sem.run_bind]
    exact congrArg (fun r : Result (Array Value) => r.andThen fun a w' => (pure (if h : a.size = 1 then a[0] else Value.tuple a) : Sem Value).run P w') hrun
  rw [hr] at h ⊢
  cases h
  rfl
/-- Behind a loop the calls put off are taken over: what is known of cells stays. -/
theorem MRel.take {ρ : Rho} {m : MS} {w : World} {D : Nat} {ds : Option (List Deferred)} (h : MRel ρ m w) (hD : w.heap[D]? = some (.deferred ds)) : MRel ρ m (w.putObj D (.deferred none)) := by
  have hlt : D < w.heap.size := (Array.getElem?_eq_some_iff.1 hD).1
  have ho : ∀ g, g ≠ D → (w.putObj D (.deferred none)).heap[g]? = w.heap[g]? := fun g hne => World.putObj_heap_other hne
  have hs : (w.putObj D (.deferred none)).heap[D]? = some (.deferred none) := World.putObj_heap_same hlt
  refine ⟨fun l b hl => ?_, h.apart⟩
  obtain ⟨h1, h2⟩ := h.blk l b hl
  refine ⟨h1, ?_⟩
  by_cases e : (ρ l).b = D
  · have hcell : ∀ j x, w.cell? ⟨(ρ l).b, j, none⟩ ≠ some x := fun j x hx => by
      rw [e] at hx
      simp only [World.cell?, hD] at hx
      cases hx
    refine ⟨h2.lt.imp (fun h => by simpa using h) id, fun r c a ha => ?_, fun _ j => ?_, fun hop => ?_, fun q hq => ?_⟩
    · obtain ⟨_, x, hx, _⟩ := h2.rel r c a ha
      exact absurd hx (hcell _ _)
    · rw [e]
      simp only [World.frozen?, hs]
    · obtain ⟨_, _, cur, ty, hc, _⟩ := h2.room hop
      rw [e, hD] at hc
      cases hc
    · have := h2.obj q hq
      cases q with
      | glob g vs =>
        obtain ⟨e1, _, c, t, fz, hc, _⟩ := this
        rw [← e1, e, hD] at hc
        cases hc
      | loop st pe tm ps asg body =>
        obtain ⟨lp, hc, _⟩ := this
        rw [e, hD] at hc
        cases hc
      | typed t0 l0 =>
        have h2 := this.2
        rw [e] at h2
        simp only [World.shape?, hD] at h2
        cases h2
      | trow t0 s0 =>
        obtain ⟨_, cur, h2, _⟩ := this
        rw [e, hD] at h2
        cases h2
  · exact h2.ext (fun _ _ => rfl) (Nat.le_refl _) (by simp) (ho _ e)
/-- The same, where the results are still told when the calls put off have been taken over. -/
def GivesK (P : Program) (f : Func) (B : Nat) (s : St) (v : AV) (m' : MS) : Prop := ∀ (b : Frame) (cs : List Frame) (ρ : Rho) (a : Act) (w : World), b.roundOf = none → AV.rels ρ s.m.nx s.tm a.tmps.toList → MRel ρ s.m w → B ≤ s.m.nx →
  ∃ ρ' a' w' todo, Steps P (lone (b.atR a s.todo) cs w) (lone { b.atR a' todo with mode := .returning } cs w') ∧ a'.defers = a.defers ∧ (∀ D ds, w'.heap[D]? = some (.deferred ds) → ∃ x, (results f a'.tmps).run P (w'.putObj D (.deferred none)) = .ok x (w'.putObj D (.deferred none)) ∧ AV.rel ρ' m'.nx v x) ∧ MRel ρ' m' w' ∧ Moves B ρ ρ' s.m m' w w'
theorem Gives_.keepK {f : Func} {B : Nat} {s : St} {v : AV} {m' : MS} (hres : (f.results.toList.all fun r => match r with | .tmp _ => true | _ => false) = true) (h : Gives_ P f B s v m') : GivesK P f B s v m' := fun b cs ρ a w hro ht hm hB => by
  obtain ⟨ρ', a', w', todo, x, st, hd, hx, hr, hm', mv⟩ := h b cs ρ a w hro ht hm hB
  refine ⟨ρ', a', w', todo, st, hd, fun D ds _ => ⟨x, ?_, hr⟩, hm', mv⟩
  have := results_tmps (w' := w'.putObj D (.deferred none)) hres hx
  exact this
theorem Goes.givesK {f : Func} {B : Nat} {s s' : St} {v : AV} {m' : MS} (h : Goes P B s s') (h' : GivesK P f B s' v m') : GivesK P f B s v m' := fun b cs ρ a w hro ht hm hB => by
  obtain ⟨ρ1, a1, w1, st1, ht1, hd1, hm1, mv1⟩ := h b cs ρ a w ht hm hB
  obtain ⟨ρ2, a2, w2, todo, st2, hd2, hx, hm2, mv2⟩ := h' b cs ρ1 a1 w1 hro ht1 hm1 mv1.nx
  exact ⟨ρ2, a2, w2, todo, st1.trans st2, hd2.trans hd1, hx, hm2, mv1.trans mv2⟩
theorem from_retK {E : Env} {D : Array Oper → List AV → MS → Option (List AV × MS × List Bool)} {cuts : List Cut} {f : Func} {ns : List Nat} {top : Nat} {todo : List Item} {tm : List AV} {m m' : MS} {v : AV} {B : Nat} (hE : ESound P E) (hD : DSound P D) (hC : cutsB B cuts = true) (h : from_ P E D f cuts ns top todo tm m = some (.ret v m' true)) : GivesK P f B ⟨todo, tm, m⟩ v m' := by
  obtain ⟨o, bs, h0, _, h2⟩ := run_ok (B := B) hE hD hC _ _ _ _ _ _ h
  cases o with
  | ret tm1 m1 =>
    simp only [finA] at h0
    split at h0
    · rename_i hn
      have hn := Nat.le_of_ble_eq_true hn
      split at h0
      · rename_i v1 bs1 hr
        simp only [Option.some.injEq, Fin_.ret.injEq] at h0
        obtain ⟨rfl, rfl, h3⟩ := h0
        obtain ⟨b1, b2⟩ := all_app (conj_all h3)
        intro b cs ρ a w hro ht hm hB
        obtain ⟨ρ', a', w', todo', st, ht', hd', hm', mv⟩ := h2 b1 b cs ρ a w hro ht hm hB
        refine ⟨ρ', a', w', todo', st, hd', fun D ds hDD => ?_, hm'.keep ns top hn, mv.kept ns top hn⟩
        obtain ⟨x, hx1, hx2⟩ := resA_ok (P := P) hr ht' (hm'.take hDD) b2
        exact ⟨x, hx1, hx2.up hn⟩
      · cases h0
    · cases h0
  | head todo1 tm1 m1 => simp only [finA] at h0; cases h0
  | left j1 tm1 m1 => cases h0
def jumpI (j : Option Code) (k : List Item) : List Item := match j with
  | none => k
  | some c => .code c :: k
set_option maxHeartbeats 1000000 in
/-- A loop over a function, whose text is known. -/
theorem range_givesK {B : Nat} {f fn : Func} {c body asg : Code} {g : Operand} {ps : Array Tmp} {k : List Item} {tm tm2 : List AV} {m m2 m3 : MS} {gf gi : FuncId} {first cap : List AV} {u v : AV} {j : Option Code} {st : Nat} {ps2 : List Nat} {asg2 body2 : Code}
    (hg : evA tm g = .clo gf first cap) (hgf : ∀ xs w, (callFunc gf xs).run P w = .ok (.enter gi xs) w) (hff : P.funcs[gi]? = some fn) (hfb : fn.body = some c)
    (hit : Gives_ P fn (m.nx + 1) (enterA fn c (first ++ [.yld m.nx] ++ cap) ⟨(m.nx, some ⟨true, false, .obj (.loop 0 none tm ps.toList asg body)⟩) :: m.bl, m.nx + 1⟩) u m2)
    (hl2 : look m2.bl m.nx = some ⟨true, false, .obj (.loop st j tm2 ps2 asg2 body2)⟩) (hB : B ≤ m.nx)
    (hafter : GivesK P f B ⟨jumpI j k, tm, ⟨upd m2.bl m.nx none, m2.nx⟩⟩ v m3) : Gives_ P f B ⟨.code (.rangeFunc g ps asg body) :: k, tm, m⟩ v m3 := by
  intro b cs ρ a w hro ht hm _
  have ht : AV.rels ρ m.nx tm a.tmps.toList := ht
  have hm : MRel ρ m w := hm
  -- the loop's record, and the block for calls that are put off
  obtain ⟨lp, hlp⟩ : ∃ lp : Loop, lp = { state := .ready, pending := none, fn := b.fn, tmps := a.tmps, params := ps, assign := asg, body, defers := w.heap.size } := ⟨_, rfl⟩
  obtain ⟨w1, hw1⟩ : ∃ w1, w1 = (w.alloc (.deferred (some []))).alloc (.loop lp) := ⟨_, rfl⟩
  have he : (Instr.enterLoop b.fn a.tmps ps asg body b.roundOf).run P w = .ok (w.heap.size + 1, [{ target := .collected w.heap.size, args := #[] }]) w1 := by
    rw [hro, hw1, hlp]; exact run_enterLoop_outer _ _ _ _ _
  have hs1 : w1.heap.size = w.heap.size + 1 + 1 := by rw [hw1]; simp
  have hL1 : w1.heap[w.heap.size + 1]? = some (.loop lp) := by
    rw [hw1]; have := World.alloc_heap_new (w.alloc (.deferred (some []))) (.loop lp); rwa [World.size_alloc] at this
  have hD1 : w1.heap[w.heap.size]? = some (.deferred (some [])) := by
    rw [hw1]; exact (Below.heap_alloc _ _ _ (by simp)).trans (World.alloc_heap_new w _)
  have ho1 : ∀ h, h < w.heap.size → w1.heap[h]? = w.heap[h]? := fun h hh => by
    rw [hw1]; exact (Below.heap_alloc _ _ _ (by simp; omega)).trans (Below.heap_alloc _ _ _ hh)
  obtain ⟨m1, hm1e⟩ : ∃ m1 : MS, m1 = ⟨(m.nx, some ⟨true, false, .obj (.loop 0 none tm ps.toList asg body)⟩) :: m.bl, m.nx + 1⟩ := ⟨_, rfl⟩
  rw [← hm1e] at hit
  have hnx1 : m1.nx = m.nx + 1 := by rw [hm1e]
  let ρ1 : Rho := ρ.new m.nx ⟨w.heap.size + 1, 0, 0⟩
  have hext : ∀ l, l < m.nx → ρ1 l = ρ l := fun l hl => by simp only [ρ1, Rho.new]; rw [if_neg (by omega)]
  have hself : ρ1 m.nx = ⟨w.heap.size + 1, 0, 0⟩ := by simp [ρ1, Rho.new]
  have key : ∀ l b', look m1.bl l = some b' → (l = m.nx ∧ b' = ⟨true, false, .obj (.loop 0 none tm ps.toList asg body)⟩) ∨ (l < m.nx ∧ look m.bl l = some b') := fun l b' h => by
    rw [hm1e, look_cons] at h
    split at h
    · rename_i e; cases h; exact .inl ⟨e.symm, rfl⟩
    · exact .inr ⟨(hm.blk l b' h).1, h⟩
  have hm1 : MRel ρ1 m1 w1 := by
    refine ⟨fun l b' hl => ?_, fun l1 b1 l2 b2 e1 e2 hw hne hnv => ?_⟩
    · rcases key l b' hl with ⟨rfl, rfl⟩ | ⟨hlt, hl⟩
      · refine ⟨by omega, ?_⟩
        rw [hself]
        refine ⟨.inl (by simp only [hs1]; omega), fun r c a ha => by cases c <;> (simp only [Cont.at] at ha; cases ha), fun _ j => by simp only [World.frozen?, hL1], (fun h => by cases h), fun q hq => ?_⟩
        cases hq
        exact ⟨lp, hL1, by rw [hlp]; rfl, by rw [hlp], by rw [hlp]; exact AV.rels.ext (nx := m.nx) hext (by omega) _ _ ht, by rw [hlp], by rw [hlp], by rw [hlp]⟩
      · refine ⟨by omega, ?_⟩
        rw [hext l hlt]
        have g2 := (hm.blk l b' hl).2
        rcases g2.lt with hb | hv
        · exact g2.ext hext (by omega) (by omega) (ho1 _ hb)
        · exact ABlk.ok.any hv _
    · rcases key l1 b1 e1 with ⟨rfl, rfl⟩ | ⟨hlt1, e1⟩
      · rcases key l2 b2 e2 with ⟨rfl, _⟩ | ⟨hlt2, e2⟩
        · exact absurd rfl hne
        · rw [hself, hext l2 hlt2]
          have := (hm.blk l2 b2 e2).2.lt.resolve_right hnv
          show (ρ l2).b ≠ w.heap.size + 1
          omega
      · have h1 := (hm.blk l1 b1 e1).2.lt.resolve_right (wr_not_void hw)
        rcases key l2 b2 e2 with ⟨rfl, rfl⟩ | ⟨hlt2, e2⟩
        · rw [hself, hext l1 hlt1]
          show w.heap.size + 1 ≠ (ρ l1).b
          omega
        · rw [hext l1 hlt1, hext l2 hlt2]
          exact hm.apart l1 b1 l2 b2 e1 e2 hw hne hnv
  -- the function that is ranged over
  have hgv := evA_ok ht g
  rw [hg] at hgv
  simp only [AV.rel] at hgv
  obtain ⟨xs, ys, hgv, hxs, hys⟩ := hgv
  have hargs : AV.rels ρ1 m1.nx (first ++ [.yld m.nx] ++ cap) (xs ++ [.func (.yield (w.heap.size + 1)) #[] #[]] ++ ys) := by
    refine AV.rels.append (AV.rels.append (AV.rels.ext hext (by omega) _ _ hxs) ?_) (AV.rels.ext hext (by omega) _ _ hys)
    simp only [AV.rels, AV.rel]
    exact ⟨_, _, rfl, ⟨by omega, by rw [hself]⟩, rfl⟩
  have hcalls := calls_of hff hfb (by rw [hnx1]; exact hit) hm1 hargs
  let mark : Deferred := { target := .collected w.heap.size, args := #[] }
  obtain ⟨e, w3, fr, ⟨ρ2, x0, rfl, _, hm2, mv⟩, hsteps, _, hleave⟩ := hcalls (b.atR { a with defers := [mark] ++ a.defers } (.inRangeFunc (w.heap.size + 1) :: k) :: cs)
  have henter := stepR_rangeFunc (P := P) (b := b) (a := a) (k := k) (cs := cs) (w := w) (g := g) (ps := ps) (body := body) (assign := asg) (w₁' := w1) (w₂ := w1) (f := gi) (args := (xs ++ [Value.func (.yield (w.heap.size + 1)) #[] #[]] ++ ys).toArray) (d := { target := .fn (.func gf) ys.toArray, args := xs.toArray ++ #[Value.func (.yield (w.heap.size + 1)) #[] #[]] }) he
    (by simp only [resolve, hgv, rangeCall, Deferred.ofValue, Sem.run_pure, Sem.run_bind, Result.andThen_ok]; simp [Act.eval])
    (by
      simp only [invoke]
      rw [← hgf]
      congr 2
      apply Array.ext'; simp)
  -- behind it
  have hb3 := hm2.blk m.nx _ hl2
  obtain ⟨lp3, hL3, hst3, hpe3, _⟩ := hb3.2.obj _ rfl
  have hρL : ρ2 m.nx = ⟨w.heap.size + 1, 0, 0⟩ := by rw [mv.ext m.nx (by omega), hself]
  rw [hρL] at hL3
  dsimp only at hL3
  have hend := run_endLoop (P := P) hL3 (by rw [hst3]; unfold stOf; split <;> simp)
  obtain ⟨w4, hw4⟩ : ∃ w4, w4 = w3.putObj (w.heap.size + 1) (.loop { lp3 with state := .exhausted }) := ⟨_, rfl⟩
  rw [← hw4] at hend
  rw [hpe3] at hend
  have hs4 : w4.heap.size = w3.heap.size := by rw [hw4]; simp
  have ho4 : ∀ h, h ≠ w.heap.size + 1 → w4.heap[h]? = w3.heap[h]? := fun h hne => by rw [hw4]; exact World.putObj_heap_other hne
  have hm4 : MRel ρ2 ⟨upd m2.bl m.nx none, m2.nx⟩ w4 := hm2.poke hl2 rfl hs4 (fun h hne => ho4 h (by rw [hρL] at hne; exact hne))
  have hnw1 : ¬ Wr ρ1 m1 w.heap.size := fun ⟨l, b', e1, e2, e3⟩ => by
    rcases key l b' e1 with ⟨rfl, rfl⟩ | ⟨hlt, e1⟩
    · rw [hself] at e3; simp only at e3; omega
    · rw [hext l hlt] at e3
      have := (hm.blk l b' e1).2.lt.resolve_right (wr_not_void e2)
      omega
  have hD3 : w3.heap[w.heap.size]? = some (.deferred (some [])) := by rw [mv.keep _ (by omega) hnw1]; exact hD1
  have hD4 : w4.heap[w.heap.size]? = some (.deferred (some [])) := by rw [ho4 _ (by omega)]; exact hD3
  have hWr2 : ∀ h, Wr ρ2 ⟨upd m2.bl m.nx none, m2.nx⟩ h → Wr ρ1 m1 h ∨ w1.heap.size ≤ h := fun h ⟨l, b', e1, e2, e3⟩ => mv.fresh h ⟨l, b', by
    simp only [look_upd] at e1
    split at e1
    · cases e1
    · exact e1, e2, e3⟩
  have ht2 : AV.rels ρ2 m2.nx tm a.tmps.toList := AV.rels.ext (fun l hl => (mv.ext l (by omega)).trans (hext l hl)) (by have := mv.nx; omega) _ _ ht
  obtain ⟨ρ3, a5, w5, todo5, st5, hd5, hK5, hm5, mv5⟩ := hafter b cs ρ2 { a with defers := [mark] ++ a.defers } w4 hro ht2 hm4 (by have := mv.nx; show B ≤ m2.nx; omega)
  have hnw4 : ¬ Wr ρ2 ⟨upd m2.bl m.nx none, m2.nx⟩ w.heap.size := fun h => by
    rcases hWr2 _ h with h | h
    · exact hnw1 h
    · omega
  have hD5 : w5.heap[w.heap.size]? = some (.deferred (some [])) := by
    rw [mv5.keep _ (by rw [hs4]; have := mv.size; omega) hnw4]; exact hD4
  have htake := run_takeDeferred (P := P) hD5
  obtain ⟨x5, hx5, hr5⟩ := hK5 _ _ hD5
  refine ⟨ρ3, { a5 with defers := a.defers }, w5.putObj w.heap.size (.deferred none), todo5, x5, ?_, rfl, hx5, hr5, hm5.take hD5, ⟨fun l hl => ?_, mv5.nx, ?_, ?_, ?_, ?_, fun h hh hn => ?_, fun h hh => ?_⟩⟩
  · refine Steps.trans (.one henter) (Steps.trans hsteps (Steps.trans (.one (step_leave_returned hleave)) ?_))
    rw [finish_atR_inRangeFunc]
    refine Steps.trans (.one (stepR_endRangeFunc hend)) ?_
    have ej : (j.map Item.code).toList ++ k = jumpI j k := by cases j <;> rfl
    rw [ej]
    refine Steps.trans st5 ?_
    have := step_collected (P := P) (fr := { b.atR a5 todo5 with mode := .returning }) (cs := cs) (w := w5) (d := mark) (r := w.heap.size) (ds := a.defers) (calls := []) (by simp) (by show a5.defers = _; rw [hd5]; rfl) rfl htake
    exact .one this
  · rw [mv5.ext l hl, mv.ext l (by omega), hext l (by omega)]
  · show w5.os = w.os
    rw [mv5.os, hw4]; show w3.os = w.os
    rw [mv.os, hw1]; rfl
  · show w5.tape = w.tape
    rw [mv5.tape, hw4]; show w3.tape = w.tape
    rw [mv.tape, hw1]; rfl
  · show w5.output = w.output
    rw [mv5.output, hw4]; show w3.output = w.output
    rw [mv.output, hw1]; rfl
  · have h1 := mv.size
    have h2 := mv5.size
    simp only [World.putObj_size]
    omega
  · have hnw1' : ¬ Wr ρ1 m1 h := fun ⟨l, b', e1, e2, e3⟩ => by
      rcases key l b' e1 with ⟨rfl, rfl⟩ | ⟨hlt, e1⟩
      · rw [hself] at e3; simp only at e3; omega
      · exact hn ⟨l, b', e1, e2, by rw [← hext l hlt]; exact e3⟩
    have hsz := mv.size
    rw [World.putObj_heap_other (by omega), mv5.keep h (by omega) (fun hw => by
      rcases hWr2 _ hw with h1 | h1
      · exact hnw1' h1
      · omega), ho4 h (by omega), mv.keep h (by omega) hnw1', ho1 h hh]
  · rcases mv5.fresh h hh with h1 | h1
    · rcases hWr2 h h1 with ⟨l, b', e1, e2, e3⟩ | h2
      · rcases key l b' e1 with ⟨rfl, rfl⟩ | ⟨hlt, e1⟩
        · rw [hself] at e3; simp only at e3
          exact .inr (by omega)
        · exact .inl ⟨l, b', e1, e2, by rw [← hext l hlt]; exact e3⟩
      · exact .inr (by omega)
    · have hsz := mv.size
      exact .inr (by omega)
theorem range_gives {B : Nat} {f fn : Func} {c body asg : Code} {g : Operand} {ps : Array Tmp} {k : List Item} {tm tm2 : List AV} {m m2 m3 : MS} {gf gi : FuncId} {first cap : List AV} {u v : AV} {j : Option Code} {st : Nat} {ps2 : List Nat} {asg2 body2 : Code}
    (hg : evA tm g = .clo gf first cap) (hgf : ∀ xs w, (callFunc gf xs).run P w = .ok (.enter gi xs) w) (hff : P.funcs[gi]? = some fn) (hfb : fn.body = some c)
    (hit : Gives_ P fn (m.nx + 1) (enterA fn c (first ++ [.yld m.nx] ++ cap) ⟨(m.nx, some ⟨true, false, .obj (.loop 0 none tm ps.toList asg body)⟩) :: m.bl, m.nx + 1⟩) u m2)
    (hl2 : look m2.bl m.nx = some ⟨true, false, .obj (.loop st j tm2 ps2 asg2 body2)⟩) (hB : B ≤ m.nx)
    (hres : (f.results.toList.all fun r => match r with | .tmp _ => true | _ => false) = true)
    (hafter : Gives_ P f B ⟨jumpI j k, tm, ⟨upd m2.bl m.nx none, m2.nx⟩⟩ v m3) : Gives_ P f B ⟨.code (.rangeFunc g ps asg body) :: k, tm, m⟩ v m3 := range_givesK hg hgf hff hfb hit hl2 hB (hafter.keepK hres)
end
/-- The loops over functions, one by one. -/
def rangesOf : Code → List Item → List (List Item)
  | .seq a b, k => rangesOf a (.code b :: k) ++ rangesOf b k
  | .cond _ x y, k => rangesOf x k ++ rangesOf y k
  | .block id b, k => rangesOf b (.inBlock id :: k)
  | .loop b, k => rangesOf b (.inLoop b :: k)
  | .scope b, k => rangesOf b (.inScope b :: k)
  | .rangeFunc g ps a b, k => [.code (.rangeFunc g ps a b) :: k]
  | _, _ => []
def rg (f : Func) (i : Nat) : List Item := (rangesOf (bodyOf f) []).getD i []
def rgG : List Item → Operand
  | .code (.rangeFunc g _ _ _) :: _ => g
  | _ => .tmp 0
def rgP : List Item → Array Tmp
  | .code (.rangeFunc _ p _ _) :: _ => p
  | _ => #[]
def rgA : List Item → Code
  | .code (.rangeFunc _ _ a _) :: _ => a
  | _ => .skip
def rgB : List Item → Code
  | .code (.rangeFunc _ _ _ b) :: _ => b
  | _ => .skip
def isRg : List Item → Bool
  | .code (.rangeFunc ..) :: _ => true
  | _ => false
theorem isRg_eq {t : List Item} (h : isRg t = true) : t = .code (.rangeFunc (rgG t) (rgP t) (rgA t) (rgB t)) :: t.tail := by
  unfold isRg at h
  split at h
  · rfl
  · cases h
/-- The block of a loop over a function. -/
abbrev lpB (t : List Item) (st : Nat) (pe : Option Code) (tm : List AV) : Option ABlk := some ⟨true, false, .obj (.loop st pe tm (rgP t).toList (rgA t) (rgB t))⟩
section
variable {P : Program}
theorem range_at {B : Nat} {f fn : Func} {c : Code} {t : List Item} {tm tm2 : List AV} {m m2 m3 : MS} {gf gi : FuncId} {first cap : List AV} {u v : AV} {j : Option Code} {st : Nat} {ps2 : List Nat} {asg2 body2 : Code} (hr : isRg t = true)
    (hg : evA tm (rgG t) = .clo gf first cap) (hgf : ∀ xs w, (callFunc gf xs).run P w = .ok (.enter gi xs) w) (hff : P.funcs[gi]? = some fn) (hfb : fn.body = some c)
    (hit : Gives_ P fn (m.nx + 1) (enterA fn c (first ++ [.yld m.nx] ++ cap) ⟨(m.nx, lpB t 0 none tm) :: m.bl, m.nx + 1⟩) u m2)
    (hl2 : look m2.bl m.nx = some ⟨true, false, .obj (.loop st j tm2 ps2 asg2 body2)⟩) (hB : B ≤ m.nx)
    (hres : (f.results.toList.all fun r => match r with | .tmp _ => true | _ => false) = true)
    (hafter : Gives_ P f B ⟨jumpI j t.tail, tm, ⟨upd m2.bl m.nx none, m2.nx⟩⟩ v m3) : Gives_ P f B ⟨t, tm, m⟩ v m3 := by
  rw [isRg_eq hr]
  exact range_gives hg hgf hff hfb hit hl2 hB hres hafter
theorem range_atK {B : Nat} {f fn : Func} {c : Code} {t : List Item} {tm tm2 : List AV} {m m2 m3 : MS} {gf gi : FuncId} {first cap : List AV} {u v : AV} {j : Option Code} {st : Nat} {ps2 : List Nat} {asg2 body2 : Code} (hr : isRg t = true)
    (hg : evA tm (rgG t) = .clo gf first cap) (hgf : ∀ xs w, (callFunc gf xs).run P w = .ok (.enter gi xs) w) (hff : P.funcs[gi]? = some fn) (hfb : fn.body = some c)
    (hit : Gives_ P fn (m.nx + 1) (enterA fn c (first ++ [.yld m.nx] ++ cap) ⟨(m.nx, lpB t 0 none tm) :: m.bl, m.nx + 1⟩) u m2)
    (hl2 : look m2.bl m.nx = some ⟨true, false, .obj (.loop st j tm2 ps2 asg2 body2)⟩) (hB : B ≤ m.nx)
    (hafter : GivesK P f B ⟨jumpI j t.tail, tm, ⟨upd m2.bl m.nx none, m2.nx⟩⟩ v m3) : Gives_ P f B ⟨t, tm, m⟩ v m3 := by
  rw [isRg_eq hr]
  exact range_givesK hg hgf hff hfb hit hl2 hB hafter
/-- Runs over any contracts. -/
def FE_ (P : Program) (E : Env) (f : Func) (cuts : List Cut) (ns : List Nat) (top : Nat) (args : List AV) (m : MS) : Option Fin_ := fun_ P E (drawAB P E) f cuts ns top args m
def HE_ (P : Program) (E : Env) (f : Func) (cuts : List Cut) (ns : List Nat) (top : Nat) (todo : List Item) (tm : List AV) (m : MS) : Option Fin_ := from_ P E (drawAB P E) f cuts ns top todo tm m
theorem FE_ret {E : Env} {f : Func} {c : Code} {cuts : List Cut} {ns : List Nat} {top : Nat} {args : List AV} {m m' : MS} {v : AV} (hE : ESound P E) (hm : MixedOk P) (hC : cutsB m.nx cuts = true) (hb : f.body = some c)
    (h : FE_ P E f cuts ns top args m = some (.ret v m' true)) : Gives_ P f m.nx (enterA f c args m) v m' := gives_of hE (drawAB_ok hE hm) hC hb h rfl
theorem FE_head {E : Env} {f : Func} {c : Code} {cuts : List Cut} {ns : List Nat} {top : Nat} {args : List AV} {m m' : MS} {todo : List Item} {tm : List AV} (hE : ESound P E) (hm : MixedOk P) (hC : cutsB m.nx cuts = true) (hb : f.body = some c)
    (h : FE_ P E f cuts ns top args m = some (.head todo tm m' true)) : Goes P m.nx (enterA f c args m) ⟨todo, tm, m'⟩ := goes_of hE (drawAB_ok hE hm) hC hb h rfl
theorem HE_ret {E : Env} {f : Func} {cuts : List Cut} {ns : List Nat} {top : Nat} {todo : List Item} {tm : List AV} {m m' : MS} {v : AV} {B : Nat} {chk : Bool} (hE : ESound P E) (hm : MixedOk P) (hC : cutsB B cuts = true)
    (h : HE_ P E f cuts ns top todo tm m = some (.ret v m' chk)) (hc : chk = true) : Gives_ P f B ⟨todo, tm, m⟩ v m' := by
  subst hc; exact from_ret hE (drawAB_ok hE hm) hC h
theorem HE_retK {E : Env} {f : Func} {cuts : List Cut} {ns : List Nat} {top : Nat} {todo : List Item} {tm : List AV} {m m' : MS} {v : AV} {B : Nat} {chk : Bool} (hE : ESound P E) (hm : MixedOk P) (hC : cutsB B cuts = true)
    (h : HE_ P E f cuts ns top todo tm m = some (.ret v m' chk)) (hc : chk = true) : GivesK P f B ⟨todo, tm, m⟩ v m' := by
  subst hc; exact from_retK hE (drawAB_ok hE hm) hC h
theorem HE_head {E : Env} {f : Func} {cuts : List Cut} {ns : List Nat} {top : Nat} {todo todo' : List Item} {tm tm' : List AV} {m m' : MS} {B : Nat} {chk : Bool} (hE : ESound P E) (hm : MixedOk P) (hC : cutsB B cuts = true)
    (h : HE_ P E f cuts ns top todo tm m = some (.head todo' tm' m' chk)) (hc : chk = true) : Goes P B ⟨todo, tm, m⟩ ⟨todo', tm', m'⟩ := by
  subst hc; exact from_head hE (drawAB_ok hE hm) hC h
end
end Go.Proofs.YtpmcflidggofkaaDoor
