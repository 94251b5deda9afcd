/-
  Regions whose order is open: the rule.
-/
import Derived.StillTail
import Derived.Test.YtnkpegdmbocgaaaDoorEx10
namespace Go.Proofs.YtnkpegdmbocgaaaDoor
open Go Go.RowKit

abbrev Tr := AV × Option MS × List Bool
def traceA (P : Program) (E : Env) (ops : Array Oper) : List Oper → List AV → MS → Option (List Tr)
  | [], _, _ => some []
  | o :: r, tm, m => match stepA P E ops o tm m with
    | some (v, mo, bs) => match traceA P E ops r (putA tm o.dst v) (orM mo m) with
      | some t => some ((v, mo, bs) :: t)
      | none => none
    | none => none
def effB : Tr → Bool
  | (_, some _, _) => true
  | _ => false
/-- Two operations that may come in either order. -/
def compat (ops : Array Oper) (x y : Oper) (ex ey : Bool) : Bool :=
  Oper.apart ops x y && (!(ex && !pureB y) && !(ey && !pureB x))
def pairsOk (ops : Array Oper) (ms : List Nat) (l : List (Oper × Bool)) : Bool :=
  (List.range l.length).all fun j => (List.range j).all fun i => bitOf ms j i || (match l[i]?, l[j]? with
    | some x, some y => compat ops x.1 y.1 x.2 y.2
    | _, _ => false)
def edgesOk (l : List Oper) : Bool := (List.range l.length).all fun i => match l[i]? with
  | some o => o.after.toList.all fun e => !Region.binds .any e || decide (e.on < i)
  | none => false
/-- A guard is ahead in every order. -/
def guardsAhead (ms : List Nat) (l : List Oper) : Bool := (List.range l.length).all fun k => match l[k]? with
  | some o => match o.guard with
    | some (j, _) => bitOf ms k j
    | none => true
  | none => true
def finTr (ops : List Oper) (ts : List Tr) (tm : List AV) (m : MS) : List AV × MS × List Bool := match ops, ts with
  | o :: r, (v, mo, bs) :: t => match finTr r t (putA tm o.dst v) (orM mo m) with
    | (tm', m', bs') => (tm', m', bs ++ bs')
  | _, _ => (tm, m, [])
def drawA (P : Program) (E : Env) (ops : Array Oper) (tm : List AV) (m : MS) : Option (List AV × MS × List Bool) := match traceA P E ops ops.toList tm m with
  | some ts => match Region.noSelect ops && (edgesOk ops.toList && (guardsOk ops.toList && (guardsAhead (masks ops.toList []) ops.toList && pairsOk ops (masks ops.toList []) (ops.toList.zip (ts.map effB))))) with
    | true => some (finTr ops.toList ts tm m)
    | false => none
  | none => none
/-- The order is open, as the program's text says. -/
def MixedOk (P : Program) : Prop := P.follows .mixedOrders = true
theorem count_set : ∀ (l : List Bool) (i : Nat), l[i]? = some false → (l.set i true).count false + 1 = l.count false
  | [], i, h => by simp at h
  | b :: l, 0, h => by simp at h; subst h; simp
  | b :: l, i + 1, h => by
    simp at h
    have := count_set l i h
    simp only [List.set_cons_succ, List.count_cons]
    omega
section
variable {P : Program} {E : Env} {ops : Array Oper}
/-- The numbers of a trace. -/
def dOf (ops : Array Oper) (i : Nat) : Option Tmp := (ops.toList[i]?).bind (·.dst)
def vOf (ts : List Tr) (i : Nat) : AV := (ts.getD i (.unk, none, [])).1
def moOf (ts : List Tr) (i : Nat) : Option MS := (ts.getD i (.unk, none, [])).2.1
theorem trace_ok : ∀ (r pre : List Oper) (tp : List Tr) (tm0 tm : List AV) (m0 m : MS) (ts : List Tr), pre ++ r = ops.toList → tp.length = pre.length →
    tm = TS (dOf ops) (vOf (tp ++ ts)) tm0 (fun _ => true) pre.length → m = MSel (moOf (tp ++ ts)) m0 (fun _ => true) pre.length →
    traceA P E ops r tm m = some ts →
    ts.length = r.length ∧ (finTr r ts tm m).1 = TS (dOf ops) (vOf (tp ++ ts)) tm0 (fun _ => true) ops.toList.length ∧ (finTr r ts tm m).2.1 = MSel (moOf (tp ++ ts)) m0 (fun _ => true) ops.toList.length ∧
    ∀ i o, pre.length ≤ i → ops.toList[i]? = some o → ∃ bs, stepA P E ops o (TS (dOf ops) (vOf (tp ++ ts)) tm0 (fun _ => true) i) (MSel (moOf (tp ++ ts)) m0 (fun _ => true) i) = some (vOf (tp ++ ts) i, moOf (tp ++ ts) i, bs) ∧ ∀ b ∈ bs, b ∈ (finTr r ts tm m).2.2
  | [], pre, tp, tm0, tm, m0, m, ts, hp, hl, ht, hm, h => by
    cases h
    have e : ops.toList.length = pre.length := by rw [← hp]; simp
    refine ⟨rfl, ?_, ?_, fun i o hi ho => ?_⟩
    · rw [e, ← ht]; rfl
    · rw [e, ← hm]; rfl
    · have := (List.getElem?_eq_some_iff.1 ho).1
      omega
  | o :: r, pre, tp, tm0, tm, m0, m, ts, hp, hl, ht, hm, h => by
    simp only [traceA] at h
    cases hs : stepA P E ops o tm m with
    | none => rw [hs] at h; cases h
    | some q =>
      obtain ⟨v, mo, bs⟩ := q
      rw [hs] at h
      dsimp only at h
      rw [getD_match] at h
      cases hr : traceA P E ops r (putA tm o.dst v) (mo.getD m) with
      | none => rw [hr] at h; cases h
      | some t =>
        rw [hr] at h
        cases h
        have ho : ops.toList[pre.length]? = some o := by rw [← hp]; simp
        have hd : dOf ops pre.length = o.dst := by unfold dOf; rw [ho]; rfl
        have hv : vOf (tp ++ (v, mo, bs) :: t) pre.length = v := by unfold vOf; rw [← hl]; simp
        have hmo : moOf (tp ++ (v, mo, bs) :: t) pre.length = mo := by unfold moOf; rw [← hl]; simp
        have e : tp ++ (v, mo, bs) :: t = (tp ++ [(v, mo, bs)]) ++ t := by simp
        have ht' : putA tm o.dst v = TS (dOf ops) (vOf (tp ++ (v, mo, bs) :: t)) tm0 (fun _ => true) (pre ++ [o]).length := by
          simp only [List.length_append, List.length_singleton, TS, if_true, hd, hv, ← ht]
        have hm' : mo.getD m = MSel (moOf (tp ++ (v, mo, bs) :: t)) m0 (fun _ => true) (pre ++ [o]).length := by
          simp only [List.length_append, List.length_singleton, MSel, if_true, hmo, ← hm]
        obtain ⟨g1, g2, g3, g4⟩ := trace_ok r (pre ++ [o]) (tp ++ [(v, mo, bs)]) tm0 _ m0 _ t (by rw [← hp]; simp) (by simp [hl]) (by rw [← e]; exact ht') (by rw [← e]; exact hm') hr
        rw [← e] at g2 g3 g4
        refine ⟨by simp [g1], ?_, ?_, fun i oi hi hoi => ?_⟩
        · rw [← g2]; simp only [finTr, getD_match]
        · rw [← g3]; simp only [finTr, getD_match]
        · by_cases hip : i = pre.length
          · subst hip
            rw [ho] at hoi
            cases hoi
            refine ⟨bs, ?_, fun b hb => by simp only [finTr]; simp [hb]⟩
            rw [← ht, ← hm, hv, hmo]
            exact hs
          · obtain ⟨bs', h1, h2⟩ := g4 i oi (by simp; omega) hoi
            refine ⟨bs', h1, fun b hb => ?_⟩
            have := h2 b hb
            simp only [finTr, getD_match]
            simp [this]
theorem apart_looks {x y : Oper} (h : Oper.apart ops x y = true) : (∀ d, x.dst = some d → d ∉ y.looksAt ops) ∧ (∀ d, x.dst = some d → y.dst ≠ some d) ∧ (∀ d, y.dst = some d → d ∉ x.looksAt ops) := Oper.apart_spec h
theorem drawA_ok (hE : ESound P E) (hm : MixedOk P) : DSound P (drawA P E) := by
  intro rid ops tm m tm' m' bs h hbs B ρ a w Q ht hnogd hmr hB k
  unfold drawA at h
  cases htr : traceA P E ops ops.toList tm m with
  | none => rw [htr] at h; cases h
  | some ts =>
    rw [htr] at h
    dsimp only at h
    split at h
    · rename_i hck
      simp only [Bool.and_eq_true] at hck
      obtain ⟨_, hedge, hgok, hgah, hpair⟩ := hck
      obtain ⟨hlen, hfin1, hfin2, hall⟩ := trace_ok (P := P) (E := E) (ops := ops) ops.toList [] [] tm tm m m ts rfl rfl rfl rfl htr
      simp only [List.nil_append, List.length_nil] at hfin1 hfin2 hall
      generalize hD : dOf ops = d at hfin1 hfin2 hall
      generalize hV : vOf ts = v at hfin1 hfin2 hall
      generalize hMo : moOf ts = mo at hfin1 hfin2 hall
      have hn : ops.toList.length = ops.size := by simp
      rw [hn] at hfin1 hfin2
      simp only [Option.some.injEq] at h
      have e1 : tm' = TS d v tm (fun _ => true) ops.size := by rw [← hfin1, h]
      have e2 : m' = MSel mo m (fun _ => true) ops.size := by rw [← hfin2, h]
      have e3 : (finTr ops.toList ts tm m).2.2 = bs := by rw [h]
      -- the checks, by number
      have hpr : ∀ i j oi oj, i < j → ops[i]? = some oi → ops[j]? = some oj → bitOf (masks ops.toList []) j i = false → Oper.apart ops oi oj = true ∧ ¬ ((mo i).isSome = true ∧ pureB oj = false) ∧ ¬ ((mo j).isSome = true ∧ pureB oi = false) := fun i j oi oj hij hi hj hb => by
        have hjs : j < ops.size := (Array.getElem?_eq_some_iff.1 hj).1
        have his : i < ops.size := by omega
        have hti : ∃ x, ts[i]? = some x := ⟨_, List.getElem?_eq_getElem (by rw [hlen]; simpa using his)⟩
        have htj : ∃ x, ts[j]? = some x := ⟨_, List.getElem?_eq_getElem (by rw [hlen]; simpa using hjs)⟩
        obtain ⟨xi, hxi⟩ := hti
        obtain ⟨xj, hxj⟩ := htj
        have hz : ∀ n o x, ops[n]? = some o → ts[n]? = some x → (ops.toList.zip (ts.map effB))[n]? = some (o, effB x) := fun n o x ho hx => by
          rw [List.getElem?_zip_eq_some]
          exact ⟨by simpa using ho, by rw [List.getElem?_map, hx]; rfl⟩
        have hef : ∀ n x, ts[n]? = some x → effB x = (mo n).isSome := fun n x hx => by
          rw [← hMo]
          unfold moOf
          rw [List.getD_eq_getElem?_getD, hx]
          obtain ⟨a, b, c⟩ := x
          cases b <;> rfl
        unfold pairsOk at hpair
        have hzl : (ops.toList.zip (ts.map effB)).length = ops.size := by simp [hlen]
        have h1 := List.all_eq_true.1 hpair j (List.mem_range.2 (by rw [hzl]; exact hjs))
        have h2 := List.all_eq_true.1 h1 i (List.mem_range.2 hij)
        rw [hb, Bool.false_or, hz i oi xi hi hxi, hz j oj xj hj hxj] at h2
        simp only [compat, Bool.and_eq_true, Bool.not_eq_true', Bool.and_eq_false_iff, hef i xi hxi, hef j xj hxj] at h2
        refine ⟨h2.1, fun hh => ?_, fun hh => ?_⟩
        · rcases h2.2.1 with h3 | h3
          · rw [hh.1] at h3; cases h3
          · simp [hh.2] at h3
        · rcases h2.2.2 with h3 | h3
          · rw [hh.1] at h3; cases h3
          · simp [hh.2] at h3
      have hdo : ∀ i o, ops[i]? = some o → d i = o.dst := fun i o ho => by
        rw [← hD]; unfold dOf
        have : ops.toList[i]? = some o := by simpa using ho
        rw [this]; rfl
      have hdn : ∀ i t, d i = some t → ∃ o, ops[i]? = some o ∧ o.dst = some t := fun i t hi => by
        rw [← hD] at hi; unfold dOf at hi
        cases ho : ops.toList[i]? with
        | none => rw [ho] at hi; cases hi
        | some o => rw [ho] at hi; exact ⟨o, by simpa using ho, hi⟩
      have hmn : ∀ i, (mo i).isSome = true → ∃ o, ops[i]? = some o ∧ pureB o = false := fun i hi => by
        have his : i < ts.length := by
          rcases Nat.lt_or_ge i ts.length with h' | h'
          · exact h'
          · rw [← hMo] at hi; unfold moOf at hi; simp [List.getElem?_eq_none h'] at hi
        have hlt : i < ops.toList.length := by rw [← hlen]; exact his
        have ho : ops.toList[i]? = some ops.toList[i] := List.getElem?_eq_getElem hlt
        refine ⟨ops.toList[i], by simp, ?_⟩
        obtain ⟨bs1, hs1, _⟩ := hall i _ (Nat.zero_le _) ho
        cases hp : pureB ops.toList[i] with
        | false => rfl
        | true => rw [pure_none hp hs1] at hi; cases hi
      intro rnd fu
      refine wpIn_region_any hm ?_
      -- any order
      have key : ∀ (f : Nat) (listed : Array Bool) (a1 : Act) (w1 : World), ClosedL ops listed → listed.toList.count false = f →
          GI (TS d v tm (fun i => listed.getD i false) ops.size) a1 → Whence ops (fun k => listed.getD k false = true) (TS d v tm (fun i => listed.getD i false) ops.size) →
          (∃ ρ1, AV.rels ρ1 (MSel mo m (fun i => listed.getD i false) ops.size).nx (TS d v tm (fun i => listed.getD i false) ops.size) a1.tmps.toList ∧ a1.defers = a.defers ∧ MRel ρ1 (MSel mo m (fun i => listed.getD i false) ops.size) w1 ∧ Moves B ρ ρ1 m (MSel mo m (fun i => listed.getD i false) ops.size) w w1) →
          wpAnyIn (FW rnd) fu P .any ops Q f listed a1 w1 := by
        intro f
        induction f with
        | zero =>
          intro listed a1 w1 hc hcnt _ _ ⟨ρ1, g1, g2, g3, g4⟩
          have hal : ∀ i, i < ops.size → listed.getD i false = true := fun i hi => by
            cases hg : listed.getD i false with
            | true => rfl
            | false =>
              have hil : i < listed.size := by rw [hc.1]; exact hi
              have : false ∈ listed.toList := by
                simp [hil] at hg
                rw [← hg]
                exact List.mem_of_getElem? (i := i) (by simp [hil])
              have := List.count_pos_iff.2 this
              omega
          have es : TS d v tm (fun i => listed.getD i false) ops.size = tm' := by
            rw [e1]
            exact ext_getD (by rw [TS_len, TS_len]) fun t => TS_same _ fun j hj _ => hal j hj
          have em : MSel mo m (fun i => listed.getD i false) ops.size = m' := by
            rw [e2]
            exact MSel_same _ fun j hj _ => hal j hj
          rw [es, em] at g1
          rw [em] at g3 g4
          refine ⟨?_, k ρ1 a1 w1 g1 g2 g3 g4⟩
          unfold Region.ready
          rw [List.filter_eq_nil_iff]
          intro i hi
          have hil : i < listed.size := by rw [hc.1]; exact List.mem_range.1 hi
          have := hal i (List.mem_range.1 hi)
          simp [hil] at this
          simp [hil, this]
        | succ f ih =>
          intro listed a1 w1 hc hcnt hGI hWh ⟨ρ1, g1, g2, g3, g4⟩
          refine ⟨fun hnil => ?_, fun i hi => ?_⟩
          · -- something waits for nothing
            exfalso
            have hne : false ∈ listed.toList := List.count_pos_iff.1 (by omega)
            have hex : ∃ i, i < ops.size ∧ listed.getD i false = false := by
              obtain ⟨i, hi, hv⟩ := List.getElem_of_mem hne
              refine ⟨i, by rw [← hc.1]; simpa using hi, ?_⟩
              have : i < listed.size := by simpa using hi
              simp [this]
              simpa using hv
            have hmin : ∀ n, ∀ i, i < n → i < ops.size → listed.getD i false = false → False := by
              intro n
              induction n with
              | zero => intro i hi; omega
              | succ n ihn =>
                intro i hin his hif
                have ho : ops[i]? = some ops[i] := Array.getElem?_eq_getElem his
                have hil : i < listed.size := by rw [hc.1]; exact his
                have : i ∈ Region.ready .any ops listed := by
                  rw [mem_ready]
                  refine ⟨by simp [hil] at hif ⊢; exact hif, ops[i], ho, fun e he hb => ?_⟩
                  have hee : e.on < i := by
                    have h1 := List.all_eq_true.1 hedge i (List.mem_range.2 (by simpa using his))
                    have ho' : ops.toList[i]? = some ops[i] := by simp
                    rw [ho'] at h1
                    have h2 := List.all_eq_true.1 h1 e (by simpa using he)
                    rw [hb] at h2
                    simpa using h2
                  cases hl : listed.getD e.on false with
                  | true => rfl
                  | false => exact (ihn e.on (by omega) (by omega) hl).elim
                rw [hnil] at this
                cases this
            obtain ⟨i, hi1, hi2⟩ := hex
            exact hmin (i + 1) i (by omega) hi1 hi2
          · have hi0 := hi
            obtain ⟨hiun, oi, hoi, hdep⟩ := mem_ready.1 hi0
            have his : i < ops.size := (Array.getElem?_eq_some_iff.1 hoi).1
            have hoi' : ops.toList[i]? = some oi := by simpa using hoi
            have hil : i < listed.size := by rw [hc.1]; exact his
            have hif : listed.getD i false = false := by simp [hil] at hiun ⊢; exact hiun
            obtain ⟨bsi, hstep, hbsi⟩ := hall i oi (Nat.zero_le _) hoi'
            have hmk := masks_listed hc
            have hml : (masks ops.toList []).length = ops.size := by
              have := (masks_ok (listed := listed) ops.toList [] [] rfl (by simpa using hc) (fun i o _ h => by simp at h)).2
              simpa using this
            have before : ∀ j, bitOf (masks ops.toList []) i j = true → listed.getD j false = true := fun j hj => hmk i oi hoi' (by rw [hml]; exact his) hdep j hj
            have behind : ∀ j oj, ops[j]? = some oj → bitOf (masks ops.toList []) j i = true → listed.getD j false = false := fun j oj hoj hj => by
              cases hl : listed.getD j false with
              | false => rfl
              | true =>
                have := hmk j oj (by simpa using hoj) (by rw [hml]; exact (Array.getElem?_eq_some_iff.1 hoj).1) (fun e he hb => hc.2 j oj hoj hl e he hb) i hj
                rw [hif] at this
                cases this
            -- the variables that this one looks at
            have hsame : ∀ t, t ∈ oi.looksAt ops → (TS d v tm (fun i => listed.getD i false) ops.size).getD t .unk = (TS d v tm (fun _ => true) i).getD t .unk := fun t ht => by
              have hcut : ∀ n, i ≤ n → (TS d v tm (fun j => decide (j < i)) n).getD t .unk = (TS d v tm (fun _ => true) i).getD t .unk := by
                intro n hn
                induction n with
                | zero => have : i = 0 := by omega
                          subst this; rfl
                | succ n ihn =>
                  by_cases hin : i = n + 1
                  · subst hin
                    exact TS_same _ fun j hj _ => by simpa using hj
                  · have := ihn (by omega)
                    rw [← this]
                    simp only [TS]
                    rw [if_neg (by simp; omega)]
              rw [← hcut ops.size (by omega)]
              refine TS_same _ fun j hj hdj => ?_
              obtain ⟨oj, hoj, hdj'⟩ := hdn j t hdj
              by_cases hji : j = i
              · subst hji; rw [hif]; simp
              · rcases Nat.lt_or_ge j i with hlt | hge
                · cases hb : bitOf (masks ops.toList []) i j with
                  | true => rw [before j hb]; simp [hlt]
                  | false => exact absurd ht ((apart_looks (hpr j i oj oi hlt hoj hoi hb).1).1 t hdj')
                · have hgt : i < j := by omega
                  cases hb : bitOf (masks ops.toList []) j i with
                  | true => rw [behind j oj hoj hb]; simp; omega
                  | false => exact absurd ht ((apart_looks (hpr i j oi oj hgt hoi hoj hb).1).2.2 t hdj')
            have hmem : pureB oi = false → MSel mo m (fun i => listed.getD i false) ops.size = MSel mo m (fun _ => true) i := fun hp => by
              have hcut : ∀ n, i ≤ n → MSel mo m (fun j => decide (j < i)) n = MSel mo m (fun _ => true) i := by
                intro n hn
                induction n with
                | zero => have : i = 0 := by omega
                          subst this; rfl
                | succ n ihn =>
                  by_cases hin : i = n + 1
                  · subst hin
                    exact MSel_same _ fun j hj _ => by simpa using hj
                  · have := ihn (by omega)
                    rw [← this]
                    simp only [MSel]
                    rw [if_neg (by simp; omega)]
              rw [← hcut ops.size (by omega)]
              refine MSel_same _ fun j hj hmj => ?_
              obtain ⟨oj, hoj, _⟩ := hmn j hmj
              by_cases hji : j = i
              · subst hji; rw [hif]; simp
              · rcases Nat.lt_or_ge j i with hlt | hge
                · cases hb : bitOf (masks ops.toList []) i j with
                  | true => rw [before j hb]; simp [hlt]
                  | false => exact absurd ⟨hmj, hp⟩ (hpr j i oj oi hlt hoj hoi hb).2.1
                · have hgt : i < j := by omega
                  cases hb : bitOf (masks ops.toList []) j i with
                  | true => rw [behind j oj hoj hb]; simp; omega
                  | false => exact absurd ⟨hmj, hp⟩ (hpr i j oi oj hgt hoi hoj hb).2.2
            have hst : stepA P E ops oi (TS d v tm (fun i => listed.getD i false) ops.size) (MSel mo m (fun i => listed.getD i false) ops.size) = some (v i, mo i, bsi) := by
              rw [stepA_congr hsame]
              cases hp : pureB oi with
              | true => rw [pure_any hp _ (MSel mo m (fun _ => true) i)]; exact hstep
              | false => rw [hmem hp]; exact hstep
            have hbsi' : bsi.all id = true := by
              rw [List.all_eq_true] at hbs ⊢
              intro b hb
              refine hbs b ?_
              rw [← e3]
              exact hbsi b hb
            -- what is there behind it
            have hset : ∀ j, (listed.setIfInBounds i true).getD j false = if j = i then true else listed.getD j false := fun j => by
              by_cases hji : j = i
              · subst hji; simp [hil]
              · rw [getD_set_ne false (Ne.symm hji), if_neg hji]
            have hTS : TS d v tm (fun j => (listed.setIfInBounds i true).getD j false) ops.size = putA (TS d v tm (fun j => listed.getD j false) ops.size) oi.dst (v i) := by
              refine ext_getD (by rw [TS_len, putA_len, TS_len]) fun t => ?_
              rw [putA_getD, TS_len]
              by_cases hdt : oi.dst = some t
              · rw [TS_last (i := i) (by rw [hset]; simp) (by rw [hdo i oi hoi]; exact hdt) ops.size his (fun j hij hj hdj => ?_)]
                · by_cases hl : t < tm.length
                  · rw [if_pos hl, if_pos ⟨hdt, hl⟩]
                  · rw [if_neg hl, if_neg (fun h => hl h.2)]
                    have hle : (TS d v tm (fun j => listed.getD j false) ops.size).length ≤ t := by rw [TS_len]; exact Nat.le_of_not_lt hl
                    rw [List.getD_eq_getElem?_getD, List.getElem?_eq_none hle]; rfl
                · rw [hset, if_neg (by omega)]
                  obtain ⟨oj, hoj, hdj'⟩ := hdn j t hdj
                  cases hb : bitOf (masks ops.toList []) j i with
                  | true => exact behind j oj hoj hb
                  | false => exact absurd hdj' ((apart_looks (hpr i j oi oj hij hoi hoj hb).1).2.1 t hdt)
              · rw [if_neg (fun h => hdt h.1)]
                refine TS_same _ fun j hj hdj => ?_
                rw [hset, if_neg]
                intro e
                subst e
                rw [hdo j oi hoi] at hdj
                exact hdt hdj
            have hMS : MSel mo m (fun j => (listed.setIfInBounds i true).getD j false) ops.size = (mo i).getD (MSel mo m (fun j => listed.getD j false) ops.size) := by
              cases hmi : mo i with
              | none =>
                refine MSel_same _ fun j hj hmj => ?_
                rw [hset, if_neg]
                intro e
                subst e
                rw [hmi] at hmj
                cases hmj
              | some m2 =>
                refine MSel_last (i := i) (by rw [hset]; simp) hmi ops.size his fun j hij hj hmj => ?_
                rw [hset, if_neg (by omega)]
                obtain ⟨oj, hoj, hpj⟩ := hmn j hmj
                cases hb : bitOf (masks ops.toList []) j i with
                | true => exact behind j oj hoj hb
                | false => exact absurd ⟨by rw [hmi]; rfl, hpj⟩ (hpr i j oi oj hij hoi hoj hb).2.1
            have hB1 : B ≤ (MSel mo m (fun i => listed.getD i false) ops.size).nx := g4.nx
            refine stepA_ok hE hoi hst g1 hGI g3 hbsi' (fun hvi ρ2 w2 x hx hm2 hmv => ?_) rnd fu
            obtain ⟨n1, n2⟩ := hGI.put (x := x) hWh hgok hoi (fun k' o' j w' hk' ho1 hg1 hj => by
              have hk1 : ops.toList[k']? = some o' := by simpa using ho1
              have h1 := List.all_eq_true.1 hgah k' (List.mem_range.2 (List.getElem?_eq_some_iff.1 hk1).1)
              rw [hk1] at h1
              dsimp only at h1
              rw [hg1] at h1
              dsimp only at h1
              have h2 := hmk k' o' hk1 (by rw [hml]; exact (Array.getElem?_eq_some_iff.1 ho1).1) (fun e he hb => hc.2 k' o' ho1 hk' e he hb) j h1
              rw [hj, hif] at h2
              cases h2) hvi
            refine ih _ _ _ (hc.set_ hi0) ?_ (by rw [hTS]; exact n1) (by
              rw [hTS]
              intro i1 t w g u hi1
              obtain ⟨k', o', j, w', oj, hdn, hrest⟩ := n2 i1 t w g u hi1
              refine ⟨k', o', j, w', oj, ?_, hrest⟩
              show (listed.setIfInBounds i true).getD k' false = true
              rw [hset]
              split
              · rfl
              · rename_i hne
                exact hdn.resolve_right hne) ⟨ρ2, ?_, ?_, ?_, ?_⟩
            · have := count_set listed.toList i (by
                have : listed[i]? = some false := by simp [hil] at hif ⊢; exact hif
                simpa using this)
              simp only [Array.toList_setIfInBounds]
              omega
            · rw [hTS, hMS]
              exact putA_ok (AV.rels.ext hmv.ext hmv.nx _ _ g1) hx
            · rw [← g2]; cases oi.dst <;> rfl
            · rw [hMS]; exact hm2
            · rw [hMS]; exact g4.trans (hmv.base hB1)
      have z0 : ∀ i, (Array.replicate ops.size false).getD i false = false := fun i => getD_replicate_false _ i
      have z1 : TS d v tm (fun i => (Array.replicate ops.size false).getD i false) ops.size = tm := by
        have : ∀ n, TS d v tm (fun i => (Array.replicate ops.size false).getD i false) n = tm := by
          intro n
          induction n with
          | zero => rfl
          | succ n ih => simp only [TS]; rw [if_neg (by rw [z0]; exact Bool.false_ne_true), ih]
        exact this _
      have z2 : MSel mo m (fun i => (Array.replicate ops.size false).getD i false) ops.size = m := by
        have : ∀ n, MSel mo m (fun i => (Array.replicate ops.size false).getD i false) n = m := by
          intro n
          induction n with
          | zero => rfl
          | succ n ih => simp only [MSel]; rw [if_neg (by rw [z0]; exact Bool.false_ne_true), ih]
        exact this _
      refine key ops.size _ _ _ ⟨by simp, fun j oj _ hl => by rw [z0] at hl; cases hl⟩ (by simp) (by rw [z1]; exact fun i t w g u hi => absurd hi (hnogd i t w g u)) (by rw [z1]; exact fun i t w g u hi => absurd hi (hnogd i t w g u)) ⟨ρ, ?_, rfl, ?_, ?_⟩
      · rw [z1, z2]; exact ht
      · rw [z2]; exact hmr.drew
      · rw [z2]; exact Moves.drew hB
    · cases h
end
end Go.Proofs.YtnkpegdmbocgaaaDoor
