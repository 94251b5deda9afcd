/-
  The executor: what a function's text reckons to, and why it is so.
-/
import Derived.StillTail
import Derived.Test.YtmjpikkloofakaaMb
namespace Go.Proofs.Ytmjpikkloofakaa
open Go Go.RowKit

/-- The name of the block that a load sees. -/
def loadAt (o : Oper) (tm : List AV) : Option Nat := match o.op with
  | .load _ x => match strip (evA tm x) with
    | .ptr l _ _ _ => some l
    | _ => none
  | _ => none
/-- The name of the block that a store writes. -/
def storeAt (o : Oper) (tm : List AV) : Option Nat := match o.op with
  | .store _ x _ => match strip (evA tm x) with
    | .ptr l _ _ _ => some l
    | _ => none
  | _ => none
def skipA (x : Oper) (tx : List AV) (y : Oper) (ty : List AV) : Bool := match loadAt x tx, storeAt y ty with
  | some l', some l => !Nat.beq l l'
  | _, _ => false
theorem skipA_some {x y : Oper} {tx ty : List AV} (h : skipA x tx y ty = true) : ∃ l' l, loadAt x tx = some l' ∧ storeAt y ty = some l ∧ ¬ l = l' := by
  unfold skipA at h
  split at h
  · rename_i l' l h1 h2
    refine ⟨l', l, h1, h2, fun e => ?_⟩
    subst e
    have : Nat.beq l l = true := Nat.beq_refl l
    rw [this] at h
    cases h
  · cases h
def pairsS (P : Program) (ops : Array Oper) (ms : List Nat) (l : List (Oper × Bool)) (tmf : Nat → List AV) : Bool :=
  (List.range l.length).all fun j => (List.range j).all fun i => match l[i]?, l[j]? with
    | some x, some y => !(x.2 && y.2) && (bitOf ms j i || (Oper.apart ops x.1 y.1 && (!(x.2 && !pureB P y.1) && (!(y.2 && !pureB P x.1) || skipA x.1 (tmf i) y.1 (tmf j)))))
    | _, _ => false
def drawS (P : Program) (E : Env) (ops : Array Oper) (tm : List AV) (m : MS) : Option (List AV × MS × List Bool) := match traceA P E ops ops.toList tm m with
  | some ts => match Region.noSelect ops && (edgesOk ops.toList && (guardsOk ops.toList && (guardsAhead (masks ops.toList []) ops.toList && pairsS P ops (masks ops.toList []) (ops.toList.zip (ts.map effB)) (TS (dOf ops) (vOf ts) tm (fun _ => true))))) with
    | true => some (finTr ops.toList ts tm m)
    | false => none
  | none => none
section
variable {P : Program} {E : Env} {ops : Array Oper}
theorem load_any {o : Oper} {tm : List AV} {m m' : MS} {l : Nat} (h : loadAt o tm = some l) (he : look m.bl l = look m'.bl l) : stepA P E ops o tm m = stepA P E ops o tm m' := by
  unfold loadAt at h
  split at h
  · rename_i t x hop
    split at h
    · rename_i l' w r c hx
      cases h
      have hc : ∀ key, coreA P E key o tm m = coreA P E key o tm m' := fun key => by
        unfold coreA
        rw [hop]
        dsimp only
        unfold execA
        rw [hop]
        dsimp only
        rw [hx]
        have : loadA P t m (.ptr l w r c) = loadA P t m' (.ptr l w r c) := by
          simp only [loadA]
          rw [he]
        rw [this]
      have hn : ∀ key v mo bs, coreA P E key o tm m' = some (v, mo, bs) → mo = none := fun key v mo bs hh => by
        unfold coreA at hh
        rw [hop] at hh
        dsimp only at hh
        unfold execA at hh
        rw [hop] at hh
        dsimp only at hh
        cases hl : loadA P t m' (strip (evA tm x)) with
        | none => rw [hl] at hh; cases hh
        | some q =>
          rw [hl] at hh
          obtain ⟨q1, q2⟩ := q
          cases hh
          rfl
      unfold stepA
      cases guardA ops tm o.guard with
      | none => rfl
      | some q => cases q with
        | none => simp only [hc]
        | some q =>
          obtain ⟨t, w, g⟩ := q
          simp only [hc]
          cases hcc : coreA P E (some (t, w)) o tm m' with
          | none => rfl
          | some q =>
            obtain ⟨v, mo, bs⟩ := q
            have := hn _ _ _ _ hcc
            subst this
            rfl
    · cases h
  · cases h
theorem store_core {o : Oper} {tm : List AV} {m m' : MS} {l : Nat} {key : Key} {v : AV} {bs : List Bool} (h : storeAt o tm = some l) (hs : coreA P E key o tm m = some (v, some m', bs)) : ∃ b, m'.bl = upd m.bl l b := by
  unfold storeAt at h
  split at h
  · rename_i t x y hop
    split at h
    · rename_i l' w r c hx
      cases h
      unfold coreA at hs
      rw [hop] at hs
      dsimp only at hs
      unfold execA at hs
      rw [hop] at hs
      dsimp only at hs
      rw [hx] at hs
      cases hq : storeA P t m (.ptr l w r c) (strip (evA tm y)) with
      | none => rw [hq] at hs; cases hs
      | some q =>
        rw [hq] at hs
        obtain ⟨q1, q2⟩ := q
        cases hs
        unfold storeA at hq
        dsimp only at hq
        repeat' (split at hq)
        all_goals first
          | (cases hq; done)
          | (cases hq; exact ⟨_, rfl⟩)
    · cases h
  · cases h
theorem store_eff {o : Oper} {tm : List AV} {m m' : MS} {l : Nat} {v : AV} {bs : List Bool} (hs : stepA P E ops o tm m = some (v, some m', bs)) (h : storeAt o tm = some l) : ∃ b, m'.bl = upd m.bl l b := by
  unfold stepA at hs
  split at hs
  · cases hs
  · split at hs
    · rename_i h1
      split at hs
      · cases hs
      · cases hs; exact store_core h h1
    · cases hs
  · split at hs
    · cases hs
    · rename_i h1
      split at hs
      · cases hs; exact store_core h h1
      · split at hs
        · cases hs; exact store_core h h1
        · cases hs
    · split at hs
      · cases hs
      · cases hs
theorem drawS_ok (hE : ESound P E) (hm : MixedOk P) : DSound P (drawS P E) := by
  intro rid ops tm m tm' m' bs h hbs B ρ a w Q ht hnogd hmr hB k
  unfold drawS at h
  cases htr : traceA P E ops ops.toList tm m with
  | none => rw [htr] at h; cases h
  | some ts =>
    rw [htr] at h
    dsimp only at h
    split at h
    · rename_i hck
      simp only [Bool.and_eq_true] at hck
      obtain ⟨_, hedge, hgok, hgah, hpair⟩ := hck
      obtain ⟨hlen, hfin1, hfin2, hall⟩ := trace_ok (P := P) (E := E) (ops := ops) ops.toList [] [] tm tm m m ts rfl rfl rfl rfl htr
      simp only [List.nil_append, List.length_nil] at hfin1 hfin2 hall
      generalize hD : dOf ops = d at hfin1 hfin2 hall
      generalize hV : vOf ts = v at hfin1 hfin2 hall
      generalize hMo : moOf ts = mo at hfin1 hfin2 hall
      have hn : ops.toList.length = ops.size := by simp
      rw [hn] at hfin1 hfin2
      simp only [Option.some.injEq] at h
      have e1 : tm' = TS d v tm (fun _ => true) ops.size := by rw [← hfin1, h]
      have e2 : m' = MSel mo m (fun _ => true) ops.size := by rw [← hfin2, h]
      have e3 : (finTr ops.toList ts tm m).2.2 = bs := by rw [h]
      -- the checks, by number
      have hpr0 : ∀ i j oi oj, i < j → ops[i]? = some oi → ops[j]? = some oj → ¬ ((mo i).isSome = true ∧ (mo j).isSome = true) ∧ (bitOf (masks ops.toList []) j i = false → Oper.apart ops oi oj = true ∧ ¬ ((mo i).isSome = true ∧ pureB P oj = false) ∧ ((mo j).isSome = true → pureB P oi = false → skipA oi (TS d v tm (fun _ => true) i) oj (TS d v tm (fun _ => true) j) = true)) := fun i j oi oj hij hi hj => by
        have hjs : j < ops.size := (Array.getElem?_eq_some_iff.1 hj).1
        have his : i < ops.size := by omega
        have hti : ∃ x, ts[i]? = some x := ⟨_, List.getElem?_eq_getElem (by rw [hlen]; simpa using his)⟩
        have htj : ∃ x, ts[j]? = some x := ⟨_, List.getElem?_eq_getElem (by rw [hlen]; simpa using hjs)⟩
        obtain ⟨xi, hxi⟩ := hti
        obtain ⟨xj, hxj⟩ := htj
        have hz : ∀ n o x, ops[n]? = some o → ts[n]? = some x → (ops.toList.zip (ts.map effB))[n]? = some (o, effB x) := fun n o x ho hx => by
          rw [List.getElem?_zip_eq_some]
          exact ⟨by simpa using ho, by rw [List.getElem?_map, hx]; rfl⟩
        have hef : ∀ n x, ts[n]? = some x → effB x = (mo n).isSome := fun n x hx => by
          rw [← hMo]
          unfold moOf
          rw [List.getD_eq_getElem?_getD, hx]
          obtain ⟨a, b, c⟩ := x
          cases b <;> rfl
        unfold pairsS at hpair
        have hzl : (ops.toList.zip (ts.map effB)).length = ops.size := by simp [hlen]
        have h1 := List.all_eq_true.1 hpair j (List.mem_range.2 (by rw [hzl]; exact hjs))
        have h2 := List.all_eq_true.1 h1 i (List.mem_range.2 hij)
        rw [hz i oi xi hi hxi, hz j oj xj hj hxj] at h2
        dsimp only at h2
        rw [hef i xi hxi, hef j xj hxj, hD, hV] at h2
        rw [Bool.and_eq_true] at h2
        refine ⟨fun hh => ?_, fun hb => ?_⟩
        · have := h2.1; rw [hh.1, hh.2] at this; cases this
        · have h3 := h2.2
          rw [hb, Bool.false_or, Bool.and_eq_true, Bool.and_eq_true] at h3
          refine ⟨h3.1, fun hh => ?_, fun hh hp => ?_⟩
          · have := h3.2.1; rw [hh.1, hh.2] at this; cases this
          · have := h3.2.2; rw [hh, hp] at this; simpa using this
      have hpr : ∀ i j oi oj, i < j → ops[i]? = some oi → ops[j]? = some oj → bitOf (masks ops.toList []) j i = false → Oper.apart ops oi oj = true ∧ ¬ ((mo i).isSome = true ∧ pureB P oj = false) := fun i j oi oj hij hi hj hb => ⟨((hpr0 i j oi oj hij hi hj).2 hb).1, ((hpr0 i j oi oj hij hi hj).2 hb).2.1⟩
      have hdo : ∀ i o, ops[i]? = some o → d i = o.dst := fun i o ho => by
        rw [← hD]; unfold dOf
        have : ops.toList[i]? = some o := by simpa using ho
        rw [this]; rfl
      have hdn : ∀ i t, d i = some t → ∃ o, ops[i]? = some o ∧ o.dst = some t := fun i t hi => by
        rw [← hD] at hi; unfold dOf at hi
        cases ho : ops.toList[i]? with
        | none => rw [ho] at hi; cases hi
        | some o => rw [ho] at hi; exact ⟨o, by simpa using ho, hi⟩
      have hmn : ∀ i, (mo i).isSome = true → ∃ o, ops[i]? = some o ∧ pureB P o = false := fun i hi => by
        have his : i < ts.length := by
          rcases Nat.lt_or_ge i ts.length with h' | h'
          · exact h'
          · rw [← hMo] at hi; unfold moOf at hi; simp [List.getElem?_eq_none h'] at hi
        have hlt : i < ops.toList.length := by rw [← hlen]; exact his
        have ho : ops.toList[i]? = some ops.toList[i] := List.getElem?_eq_getElem hlt
        refine ⟨ops.toList[i], by simp, ?_⟩
        obtain ⟨bs1, hs1, _⟩ := hall i _ (Nat.zero_le _) ho
        cases hp : pureB P ops.toList[i] with
        | false => rfl
        | true => rw [pure_none hp hs1] at hi; cases hi
      intro rnd fu
      refine wpIn_region_any hm ?_
      -- any order
      have key : ∀ (f : Nat) (listed : Array Bool) (a1 : Act) (w1 : World), ClosedL ops listed → listed.toList.count false = f →
          GI (TS d v tm (fun i => listed.getD i false) ops.size) a1 → Whence ops (fun k => listed.getD k false = true) (TS d v tm (fun i => listed.getD i false) ops.size) →
          (∃ ρ1, AV.rels ρ1 (MSel mo m (fun i => listed.getD i false) ops.size).nx (TS d v tm (fun i => listed.getD i false) ops.size) a1.tmps.toList ∧ a1.defers = a.defers ∧ MRel ρ1 (MSel mo m (fun i => listed.getD i false) ops.size) w1 ∧ Moves B ρ ρ1 m (MSel mo m (fun i => listed.getD i false) ops.size) w w1) →
          wpAnyIn (FW rnd) fu P .any ops Q f listed a1 w1 := by
        intro f
        induction f with
        | zero =>
          intro listed a1 w1 hc hcnt _ _ ⟨ρ1, g1, g2, g3, g4⟩
          have hal : ∀ i, i < ops.size → listed.getD i false = true := fun i hi => by
            cases hg : listed.getD i false with
            | true => rfl
            | false =>
              have hil : i < listed.size := by rw [hc.1]; exact hi
              have : false ∈ listed.toList := by
                simp [hil] at hg
                rw [← hg]
                exact List.mem_of_getElem? (i := i) (by simp [hil])
              have := List.count_pos_iff.2 this
              omega
          have es : TS d v tm (fun i => listed.getD i false) ops.size = tm' := by
            rw [e1]
            exact ext_getD (by rw [TS_len, TS_len]) fun t => TS_same _ fun j hj _ => hal j hj
          have em : MSel mo m (fun i => listed.getD i false) ops.size = m' := by
            rw [e2]
            exact MSel_same _ fun j hj _ => hal j hj
          rw [es, em] at g1
          rw [em] at g3 g4
          refine ⟨?_, k ρ1 a1 w1 g1 g2 g3 g4⟩
          unfold Region.ready
          rw [List.filter_eq_nil_iff]
          intro i hi
          have hil : i < listed.size := by rw [hc.1]; exact List.mem_range.1 hi
          have := hal i (List.mem_range.1 hi)
          simp [hil] at this
          simp [hil, this]
        | succ f ih =>
          intro listed a1 w1 hc hcnt hGI hWh ⟨ρ1, g1, g2, g3, g4⟩
          refine ⟨fun hnil => ?_, fun i hi => ?_⟩
          · -- something waits for nothing
            exfalso
            have hne : false ∈ listed.toList := List.count_pos_iff.1 (by omega)
            have hex : ∃ i, i < ops.size ∧ listed.getD i false = false := by
              obtain ⟨i, hi, hv⟩ := List.getElem_of_mem hne
              refine ⟨i, by rw [← hc.1]; simpa using hi, ?_⟩
              have : i < listed.size := by simpa using hi
              simp [this]
              simpa using hv
            have hmin : ∀ n, ∀ i, i < n → i < ops.size → listed.getD i false = false → False := by
              intro n
              induction n with
              | zero => intro i hi; omega
              | succ n ihn =>
                intro i hin his hif
                have ho : ops[i]? = some ops[i] := Array.getElem?_eq_getElem his
                have hil : i < listed.size := by rw [hc.1]; exact his
                have : i ∈ Region.ready .any ops listed := by
                  rw [mem_ready]
                  refine ⟨by simp [hil] at hif ⊢; exact hif, ops[i], ho, fun e he hb => ?_⟩
                  have hee : e.on < i := by
                    have h1 := List.all_eq_true.1 hedge i (List.mem_range.2 (by simpa using his))
                    have ho' : ops.toList[i]? = some ops[i] := by simp
                    rw [ho'] at h1
                    have h2 := List.all_eq_true.1 h1 e (by simpa using he)
                    rw [hb] at h2
                    simpa using h2
                  cases hl : listed.getD e.on false with
                  | true => rfl
                  | false => exact (ihn e.on (by omega) (by omega) hl).elim
                rw [hnil] at this
                cases this
            obtain ⟨i, hi1, hi2⟩ := hex
            exact hmin (i + 1) i (by omega) hi1 hi2
          · have hi0 := hi
            obtain ⟨hiun, oi, hoi, hdep⟩ := mem_ready.1 hi0
            have his : i < ops.size := (Array.getElem?_eq_some_iff.1 hoi).1
            have hoi' : ops.toList[i]? = some oi := by simpa using hoi
            have hil : i < listed.size := by rw [hc.1]; exact his
            have hif : listed.getD i false = false := by simp [hil] at hiun ⊢; exact hiun
            obtain ⟨bsi, hstep, hbsi⟩ := hall i oi (Nat.zero_le _) hoi'
            have hmk := masks_listed hc
            have hml : (masks ops.toList []).length = ops.size := by
              have := (masks_ok (listed := listed) ops.toList [] [] rfl (by simpa using hc) (fun i o _ h => by simp at h)).2
              simpa using this
            have before : ∀ j, bitOf (masks ops.toList []) i j = true → listed.getD j false = true := fun j hj => hmk i oi hoi' (by rw [hml]; exact his) hdep j hj
            have behind : ∀ j oj, ops[j]? = some oj → bitOf (masks ops.toList []) j i = true → listed.getD j false = false := fun j oj hoj hj => by
              cases hl : listed.getD j false with
              | false => rfl
              | true =>
                have := hmk j oj (by simpa using hoj) (by rw [hml]; exact (Array.getElem?_eq_some_iff.1 hoj).1) (fun e he hb => hc.2 j oj hoj hl e he hb) i hj
                rw [hif] at this
                cases this
            -- the variables that this one looks at
            have hsame : ∀ t, t ∈ oi.looksAt ops → (TS d v tm (fun i => listed.getD i false) ops.size).getD t .unk = (TS d v tm (fun _ => true) i).getD t .unk := fun t ht => by
              have hcut : ∀ n, i ≤ n → (TS d v tm (fun j => decide (j < i)) n).getD t .unk = (TS d v tm (fun _ => true) i).getD t .unk := by
                intro n hn
                induction n with
                | zero => have : i = 0 := by omega
                          subst this; rfl
                | succ n ihn =>
                  by_cases hin : i = n + 1
                  · subst hin
                    exact TS_same _ fun j hj _ => by simpa using hj
                  · have := ihn (by omega)
                    rw [← this]
                    simp only [TS]
                    rw [if_neg (by simp; omega)]
              rw [← hcut ops.size (by omega)]
              refine TS_same _ fun j hj hdj => ?_
              obtain ⟨oj, hoj, hdj'⟩ := hdn j t hdj
              by_cases hji : j = i
              · subst hji; rw [hif]; simp
              · rcases Nat.lt_or_ge j i with hlt | hge
                · cases hb : bitOf (masks ops.toList []) i j with
                  | true => rw [before j hb]; simp [hlt]
                  | false => exact absurd ht ((apart_looks (hpr j i oj oi hlt hoj hoi hb).1).1 t hdj')
                · have hgt : i < j := by omega
                  cases hb : bitOf (masks ops.toList []) j i with
                  | true => rw [behind j oj hoj hb]; simp; omega
                  | false => exact absurd ht ((apart_looks (hpr i j oi oj hgt hoi hoj hb).1).2.2 t hdj')
            have hone : ∀ j, (mo j).isSome = true → ∀ n sel, MSel mo m sel n = if j < n ∧ sel j = true then (mo j).getD m else m := fun j hj n sel => by
              have huni : ∀ k, (mo k).isSome = true → k = j := fun k hk => by
                obtain ⟨ok, hok, _⟩ := hmn k hk
                obtain ⟨oj, hoj, _⟩ := hmn j hj
                rcases Nat.lt_trichotomy k j with h' | h' | h'
                · exact absurd ⟨hk, hj⟩ (hpr0 k j ok oj h' hok hoj).1
                · exact h'
                · exact absurd ⟨hj, hk⟩ (hpr0 j k oj ok h' hoj hok).1
              induction n with
              | zero => rw [if_neg (by omega)]; rfl
              | succ n ihn =>
                simp only [MSel]
                by_cases hnj : n = j
                · subst hnj
                  rw [ihn, if_neg (c := n < n ∧ sel n = true) (by omega)]
                  by_cases hs : sel n = true
                  · rw [if_pos hs, if_pos ⟨by omega, hs⟩]
                  · rw [if_neg hs, if_neg (by simp [hs])]
                · have hmo : mo n = none := by
                    cases hmn' : mo n with
                    | none => rfl
                    | some q => exact absurd (huni n (by rw [hmn']; rfl)) hnj
                  rw [hmo, Option.getD_none, ite_self, ihn]
                  by_cases hjn : j < n ∧ sel j = true
                  · rw [if_pos hjn, if_pos ⟨by omega, hjn.2⟩]
                  · rw [if_neg hjn, if_neg (fun h' => hjn ⟨by omega, h'.2⟩)]
            have hmem : pureB P oi = false → MSel mo m (fun i => listed.getD i false) ops.size = MSel mo m (fun _ => true) i ∨ ∃ l, loadAt oi (TS d v tm (fun _ => true) i) = some l ∧ look (MSel mo m (fun i => listed.getD i false) ops.size).bl l = look (MSel mo m (fun _ => true) i).bl l := fun hp => by
              by_cases hex : ∃ j, (mo j).isSome = true
              · obtain ⟨j, hmj⟩ := hex
                obtain ⟨oj, hoj, hpj⟩ := hmn j hmj
                have hjs : j < ops.size := (Array.getElem?_eq_some_iff.1 hoj).1
                rw [hone j hmj, hone j hmj]
                rcases Nat.lt_trichotomy j i with hlt | heq | hgt
                · cases hb : bitOf (masks ops.toList []) i j with
                  | true => rw [if_pos ⟨hjs, before j hb⟩, if_pos ⟨hlt, rfl⟩]; exact .inl rfl
                  | false => exact absurd ⟨hmj, hp⟩ (hpr j i oj oi hlt hoj hoi hb).2
                · subst heq
                  rw [if_neg (fun h' => by rw [hif] at h'; cases h'.2), if_neg (by omega)]; exact .inl rfl
                · rw [if_neg (c := j < i ∧ true = true) (by omega)]
                  cases hb : bitOf (masks ops.toList []) j i with
                  | true => rw [if_neg (fun h' => by rw [behind j oj hoj hb] at h'; cases h'.2)]; exact .inl rfl
                  | false =>
                    by_cases hlj : listed.getD j false = true
                    · rw [if_pos ⟨hjs, hlj⟩]
                      have hsk := ((hpr0 i j oi oj hgt hoi hoj).2 hb).2.2 hmj hp
                      obtain ⟨l', l, e1, e2, hne⟩ := skipA_some hsk
                      obtain ⟨bsj, hstj, _⟩ := hall j oj (Nat.zero_le _) (by simpa using hoj)
                      cases hmoj : mo j with
                      | none => rw [hmoj] at hmj; cases hmj
                      | some mj =>
                        rw [hmoj, hone j hmj, if_neg (by omega)] at hstj
                        obtain ⟨bb, hbb⟩ := store_eff hstj e2
                        refine .inr ⟨l', e1, ?_⟩
                        rw [Option.getD_some, hbb, look_upd, if_neg hne]
                    · rw [if_neg (fun h' => hlj h'.2)]; exact .inl rfl
              · have hno : ∀ sel n, MSel mo m sel n = m := fun sel n => by
                  induction n with
                  | zero => rfl
                  | succ n ihn =>
                    have hmo : mo n = none := by
                      cases hmn' : mo n with
                      | none => rfl
                      | some q => exact absurd ⟨n, by rw [hmn']; rfl⟩ hex
                    simp only [MSel]
                    rw [hmo, Option.getD_none, ite_self, ihn]
                rw [hno, hno]; exact .inl rfl
            have hst : stepA P E ops oi (TS d v tm (fun i => listed.getD i false) ops.size) (MSel mo m (fun i => listed.getD i false) ops.size) = some (v i, mo i, bsi) := by
              rw [stepA_congr hsame]
              cases hp : pureB P oi with
              | true => rw [pure_any hp _ (MSel mo m (fun _ => true) i)]; exact hstep
              | false =>
                rcases hmem hp with h' | ⟨l, h1, h2⟩
                · rw [h']; exact hstep
                · rw [load_any h1 h2]; exact hstep
            have hbsi' : bsi.all id = true := by
              rw [List.all_eq_true] at hbs ⊢
              intro b hb
              refine hbs b ?_
              rw [← e3]
              exact hbsi b hb
            -- what is there behind it
            have hset : ∀ j, (listed.setIfInBounds i true).getD j false = if j = i then true else listed.getD j false := fun j => by
              by_cases hji : j = i
              · subst hji; simp [hil]
              · rw [getD_set_ne false (Ne.symm hji), if_neg hji]
            have hTS : TS d v tm (fun j => (listed.setIfInBounds i true).getD j false) ops.size = putA (TS d v tm (fun j => listed.getD j false) ops.size) oi.dst (v i) := by
              refine ext_getD (by rw [TS_len, putA_len, TS_len]) fun t => ?_
              rw [putA_getD, TS_len]
              by_cases hdt : oi.dst = some t
              · rw [TS_last (i := i) (by rw [hset]; simp) (by rw [hdo i oi hoi]; exact hdt) ops.size his (fun j hij hj hdj => ?_)]
                · by_cases hl : t < tm.length
                  · rw [if_pos hl, if_pos ⟨hdt, hl⟩]
                  · rw [if_neg hl, if_neg (fun h => hl h.2)]
                    have hle : (TS d v tm (fun j => listed.getD j false) ops.size).length ≤ t := by rw [TS_len]; exact Nat.le_of_not_lt hl
                    rw [List.getD_eq_getElem?_getD, List.getElem?_eq_none hle]; rfl
                · rw [hset, if_neg (by omega)]
                  obtain ⟨oj, hoj, hdj'⟩ := hdn j t hdj
                  cases hb : bitOf (masks ops.toList []) j i with
                  | true => exact behind j oj hoj hb
                  | false => exact absurd hdj' ((apart_looks (hpr i j oi oj hij hoi hoj hb).1).2.1 t hdt)
              · rw [if_neg (fun h => hdt h.1)]
                refine TS_same _ fun j hj hdj => ?_
                rw [hset, if_neg]
                intro e
                subst e
                rw [hdo j oi hoi] at hdj
                exact hdt hdj
            have hMS : MSel mo m (fun j => (listed.setIfInBounds i true).getD j false) ops.size = (mo i).getD (MSel mo m (fun j => listed.getD j false) ops.size) := by
              cases hmi : mo i with
              | none =>
                refine MSel_same _ fun j hj hmj => ?_
                rw [hset, if_neg]
                intro e
                subst e
                rw [hmi] at hmj
                cases hmj
              | some m2 =>
                refine MSel_last (i := i) (by rw [hset]; simp) hmi ops.size his fun j hij hj hmj => ?_
                rw [hset, if_neg (by omega)]
                obtain ⟨oj, hoj, hpj⟩ := hmn j hmj
                cases hb : bitOf (masks ops.toList []) j i with
                | true => exact behind j oj hoj hb
                | false => exact absurd ⟨by rw [hmi]; rfl, hpj⟩ (hpr i j oi oj hij hoi hoj hb).2
            have hB1 : B ≤ (MSel mo m (fun i => listed.getD i false) ops.size).nx := g4.nx
            refine stepA_ok hE hoi hst g1 hGI g3 hbsi' (fun hvi ρ2 w2 x hx hm2 hmv => ?_) rnd fu
            obtain ⟨n1, n2⟩ := hGI.put (x := x) hWh hgok hoi (fun k' o' j w' hk' ho1 hg1 hj => by
              have hk1 : ops.toList[k']? = some o' := by simpa using ho1
              have h1 := List.all_eq_true.1 hgah k' (List.mem_range.2 (List.getElem?_eq_some_iff.1 hk1).1)
              rw [hk1] at h1
              dsimp only at h1
              rw [hg1] at h1
              dsimp only at h1
              have h2 := hmk k' o' hk1 (by rw [hml]; exact (Array.getElem?_eq_some_iff.1 ho1).1) (fun e he hb => hc.2 k' o' ho1 hk' e he hb) j h1
              rw [hj, hif] at h2
              cases h2) hvi
            refine ih _ _ _ (hc.set_ hi0) ?_ (by rw [hTS]; exact n1) (by
              rw [hTS]
              intro i1 t w g u hi1
              obtain ⟨k', o', j, w', oj, hdn, hrest⟩ := n2 i1 t w g u hi1
              refine ⟨k', o', j, w', oj, ?_, hrest⟩
              show (listed.setIfInBounds i true).getD k' false = true
              rw [hset]
              split
              · rfl
              · rename_i hne
                exact hdn.resolve_right hne) ⟨ρ2, ?_, ?_, ?_, ?_⟩
            · have := count_set listed.toList i (by
                have : listed[i]? = some false := by simp [hil] at hif ⊢; exact hif
                simpa using this)
              simp only [Array.toList_setIfInBounds]
              omega
            · rw [hTS, hMS]
              exact putA_ok (AV.rels.ext hmv.ext hmv.nx _ _ g1) hx
            · rw [← g2]; cases oi.dst <;> rfl
            · rw [hMS]; exact hm2
            · rw [hMS]; exact g4.trans (hmv.base hB1)
      have z0 : ∀ i, (Array.replicate ops.size false).getD i false = false := fun i => getD_replicate_false _ i
      have z1 : TS d v tm (fun i => (Array.replicate ops.size false).getD i false) ops.size = tm := by
        have : ∀ n, TS d v tm (fun i => (Array.replicate ops.size false).getD i false) n = tm := by
          intro n
          induction n with
          | zero => rfl
          | succ n ih => simp only [TS]; rw [if_neg (by rw [z0]; exact Bool.false_ne_true), ih]
        exact this _
      have z2 : MSel mo m (fun i => (Array.replicate ops.size false).getD i false) ops.size = m := by
        have : ∀ n, MSel mo m (fun i => (Array.replicate ops.size false).getD i false) n = m := by
          intro n
          induction n with
          | zero => rfl
          | succ n ih => simp only [MSel]; rw [if_neg (by rw [z0]; exact Bool.false_ne_true), ih]
        exact this _
      refine key ops.size _ _ _ ⟨by simp, fun j oj _ hl => by rw [z0] at hl; cases hl⟩ (by simp) (by rw [z1]; exact fun i t w g u hi => absurd hi (hnogd i t w g u)) (by rw [z1]; exact fun i t w g u hi => absurd hi (hnogd i t w g u)) ⟨ρ, ?_, rfl, ?_, ?_⟩
      · rw [z1, z2]; exact ht
      · rw [z2]; exact hmr.drew
      · rw [z2]; exact Moves.drew hB
    · cases h
end
end Go.Proofs.Ytmjpikkloofakaa

namespace Go.Proofs.Ytmjpikkloofakaa
open Go Go.RowKit
mutual
/-- It does not speak of this name. -/
def AV.offB (l : Nat) : AV → Bool
  | .unk => true
  | .val _ => true
  | .any _ => true
  | .ptr k _ _ _ => !Nat.beq k l
  | .sl _ k _ _ _ _ _ => !Nat.beq k l
  | .gd _ _ _ v => AV.offB l v
  | .clo _ a b => AV.offsB l a && AV.offsB l b
  | .agg cs => AV.offsB l cs
  | .tup cs => AV.offsB l cs
  | .yld k => !Nat.beq k l
  | .mp k => !Nat.beq k l
def AV.offsB (l : Nat) : List AV → Bool
  | [] => true
  | a :: r => AV.offB l a && AV.offsB l r
end
section
variable {ρ ρ' : Rho} {nx l : Nat}
theorem beq_off {k l : Nat} (h : (!Nat.beq k l) = true) : k ≠ l := fun e => by subst e; simp at h
mutual
theorem AV.rel.off (hρ : ∀ k, k ≠ l → ρ' k = ρ k) : ∀ (a : AV) (x : Value), a.offB l = true → AV.rel ρ nx a x → AV.rel ρ' nx a x
  | .unk, _, _, _ => by simp only [AV.rel]
  | .val v, x, _, hx => by simpa only [AV.rel] using hx
  | .any k, x, _, hx => by simpa only [AV.rel] using hx
  | .ptr k w r c, x, h, hx => by
    simp only [AV.rel, AV.offB] at hx h ⊢
    rw [hρ k (beq_off h)]
    exact hx
  | .sl nn k w r s n cap, x, h, hx => by
    simp only [AV.rel, AV.offB] at hx h ⊢
    rw [hρ k (beq_off h)]
    exact hx
  | .gd _ _ g v, x, h, hx => by
    simp only [AV.rel, AV.offB] at hx h ⊢
    exact ⟨fun hg => AV.rel.off hρ v x h (hx.1 hg), hx.2⟩
  | .clo f fs cs, x, h, hx => by
    simp only [AV.rel, AV.offB, Bool.and_eq_true] at hx h ⊢
    obtain ⟨xs, ys, e, h1, h2⟩ := hx
    exact ⟨xs, ys, e, AV.rels.off hρ fs xs h.1 h1, AV.rels.off hρ cs ys h.2 h2⟩
  | .agg cs, x, h, hx => by
    simp only [AV.rel, AV.offB] at hx h ⊢
    obtain ⟨xs, e, h1⟩ := hx
    exact ⟨xs, e, AV.rels.off hρ cs xs h h1⟩
  | .tup cs, x, h, hx => by
    simp only [AV.rel, AV.offB] at hx h ⊢
    obtain ⟨xs, e, h1⟩ := hx
    exact ⟨xs, e, AV.rels.off hρ cs xs h h1⟩
  | .yld k, x, h, hx => by
    simp only [AV.rel, AV.offB] at hx h ⊢
    rw [hρ k (beq_off h)]
    exact hx
  | .mp k, x, h, hx => by
    simp only [AV.rel, AV.offB] at hx h ⊢
    rw [hρ k (beq_off h)]
    exact hx
theorem AV.rels.off (hρ : ∀ k, k ≠ l → ρ' k = ρ k) : ∀ (as : List AV) (xs : List Value), AV.offsB l as = true → AV.rels ρ nx as xs → AV.rels ρ' nx as xs
  | [], xs, _, hx => by simpa only [AV.rels] using hx
  | a :: as, xs, h, hx => by
    simp only [AV.rels, AV.offsB, Bool.and_eq_true] at hx h ⊢
    obtain ⟨y, ys, e, h1, h2⟩ := hx
    exact ⟨y, ys, e, AV.rel.off hρ a y h.1 h1, AV.rels.off hρ as ys h.2 h2⟩
end
end
/-- Memory by what is found in it. -/
theorem MRel.by_look {ρ : Rho} {m m' : MS} {w : World} (h : MRel ρ m w) (hn : m.nx ≤ m'.nx) (hl : ∀ l b, look m'.bl l = some b → look m.bl l = some b) : MRel ρ m' w := h.less hn hl
/-- What reads alone, reckoned without what was made meanwhile, leaves that too. -/
theorem MRel.frame {ρ ρ' : Rho} {m mL : MS} {w w' : World} (hL : MRel ρ mL w) (hnx : m.nx = mL.nx) (hsub : ∀ l b, look m.bl l = some b → look mL.bl l = some b) (hadd : ∀ l b, look mL.bl l = some b → look m.bl l = some b ∨ b.wr = true ∧ look m.bl l = none)
    (h' : MRel ρ' m w') (mv : Moves m.nx ρ ρ' m m w w') : MRel ρ' mL w' := by
  have hρ : ∀ l b, look mL.bl l = some b → ρ' l = ρ l := fun l b h => mv.ext l (by rw [hnx]; exact (hL.blk l b h).1)
  refine ⟨fun l b h => ⟨(hL.blk l b h).1, ?_⟩, fun l b l' b' h1 h2 hw hne hv => ?_, fun l b l' b' h1 h2 hw hn2 => by rw [hρ l b h1, hρ l' b' h2]; exact hL.deep l b l' b' h1 h2 hw hn2⟩
  · rcases hadd l b h with h1 | ⟨hw, hno⟩
    · have := (h'.blk l b h1).2
      rw [← hnx]
      exact this
    · have hb := (hL.blk l b h).2
      rw [hρ l b h]
      have hnv : ¬ b.void := fun hv => by rw [hv.1] at hw; cases hw
      have hlt : (ρ l).b < w.heap.size := hb.lt.resolve_right hnv
      refine hb.ext (fun k hk => mv.ext k (by rw [hnx]; exact hk)) (Nat.le_refl _) mv.size (mv.keep _ hlt ?_) fun hn' g hg => mv.keep g (hb.tlt hn' g hg) fun ⟨k, bk, hk, hkw, e⟩ => by
        rw [← e, hL.deep k bk l b (hsub k bk hk) h hkw hn'] at hg; cases hg
      rintro ⟨k, bk, hk, hkw, e⟩
      have hkl : k ≠ l := fun e' => by subst e'; rw [hno] at hk; cases hk
      exact hL.apart k bk l b (hsub k bk hk) h hkw (Ne.symm hkl) hnv e.symm
  · rw [hρ l b h1, hρ l' b' h2]
    exact hL.apart l b l' b' h1 h2 hw hne hv
theorem Moves.frame {ρ ρ' : Rho} {m mL : MS} {w w' : World} (hL : MRel ρ mL w) (hnx : m.nx = mL.nx) (hsub : ∀ l b, look m.bl l = some b → look mL.bl l = some b) (mv : Moves m.nx ρ ρ' m m w w') : Moves mL.nx ρ ρ' mL mL w w' :=
  ⟨fun l hl => mv.ext l (by rw [hnx]; exact hl), Nat.le_refl _, mv.os, mv.tape, mv.output, mv.size,
   fun g hg hno => mv.keep g hg fun ⟨l, b, h1, h2, h3⟩ => hno ⟨l, b, hsub l b h1, h2, h3⟩,
   fun g ⟨l, b, h1, h2, h3⟩ => .inl ⟨l, b, h1, h2, by rw [← h3, mv.ext l (by rw [hnx]; exact (hL.blk l b h1).1)]⟩⟩
theorem Cont.down {ρ : Rho} {nx n : Nat} {k : Cont} {cell : Nat → Option Value} (h : k.locsB n = true) (hr : k.rel ρ nx cell) : k.rel ρ n cell := fun r c a ha => by
  obtain ⟨h1, x, h2, h3⟩ := hr r c a ha
  exact ⟨h1, x, h2, AV.rel.down a x (Cont.locsB_at h ha) h3⟩
mutual
def AV.okB (p : Nat → Bool) : AV → Bool
  | .unk => true
  | .val _ => true
  | .any _ => true
  | .ptr k _ _ _ => p k
  | .sl _ k _ _ _ _ _ => p k
  | .gd _ _ _ v => AV.okB p v
  | .clo _ a b => AV.oksB p a && AV.oksB p b
  | .agg cs => AV.oksB p cs
  | .tup cs => AV.oksB p cs
  | .yld k => p k
  | .mp k => p k
def AV.oksB (p : Nat → Bool) : List AV → Bool
  | [] => true
  | a :: r => AV.okB p a && AV.oksB p r
end
section
variable {p : Nat → Bool} {l : Nat}
theorem ok_off {k : Nat} (hp : p l = false) (h : p k = true) : (!Nat.beq k l) = true := by
  cases e : Nat.beq k l with
  | false => rfl
  | true => rw [Nat.eq_of_beq_eq_true e, hp] at h; cases h
mutual
theorem AV.ok_off (hp : p l = false) : ∀ (a : AV), a.okB p = true → a.offB l = true
  | .unk, _ => rfl
  | .val _, _ => rfl
  | .any _, _ => rfl
  | .ptr k w r c, h => by simp only [AV.okB, AV.offB] at h ⊢; exact Go.Proofs.Ytmjpikkloofakaa.ok_off hp h
  | .sl nn k w r s m cap, h => by simp only [AV.okB, AV.offB] at h ⊢; exact Go.Proofs.Ytmjpikkloofakaa.ok_off hp h
  | .gd _ _ g v, h => by simp only [AV.okB, AV.offB] at h ⊢; exact AV.ok_off hp v h
  | .clo f fs cs, h => by
    simp only [AV.okB, AV.offB, Bool.and_eq_true] at h ⊢
    exact ⟨AV.oks_off hp fs h.1, AV.oks_off hp cs h.2⟩
  | .agg cs, h => by simp only [AV.okB, AV.offB] at h ⊢; exact AV.oks_off hp cs h
  | .tup cs, h => by simp only [AV.okB, AV.offB] at h ⊢; exact AV.oks_off hp cs h
  | .yld k, h => by simp only [AV.okB, AV.offB] at h ⊢; exact Go.Proofs.Ytmjpikkloofakaa.ok_off hp h
  | .mp k, h => by simp only [AV.okB, AV.offB] at h ⊢; exact Go.Proofs.Ytmjpikkloofakaa.ok_off hp h
theorem AV.oks_off (hp : p l = false) : ∀ (as : List AV), AV.oksB p as = true → AV.offsB l as = true
  | [], _ => rfl
  | a :: as, h => by
    simp only [AV.oksB, AV.offsB, Bool.and_eq_true] at h ⊢
    exact ⟨AV.ok_off hp a h.1, AV.oks_off hp as h.2⟩
end
end
def Cont.okB (p : Nat → Bool) : Cont → Bool
  | .cells l => AV.oksB p l
  | .obj (.loop _ _ tm _ _ _) => AV.oksB p tm
  | .obj (.mit tm _ _) => AV.oksB p tm
  | .obj (.typed _ l) => AV.oksB p l
  | .obj (.nest ..) => false
  | _ => true
theorem Cont.ok_flat {p : Nat → Bool} {k : Cont} (h : k.okB p = true) : k.nested = false := by
  cases k with
  | obj q =>
    cases q with
    | nest cs fo => cases h
    | _ => rfl
  | _ => rfl
def Cont.offB (l : Nat) : Cont → Bool
  | .cells as => AV.offsB l as
  | .obj (.loop _ _ tm _ _ _) => AV.offsB l tm
  | .obj (.mit tm _ _) => AV.offsB l tm
  | .obj (.typed _ as) => AV.offsB l as
  | .obj (.nest _ fo) => AV.offsB l (foAVs fo)
  | _ => true
theorem Cont.ok_off {p : Nat → Bool} {l : Nat} (hp : p l = false) {k : Cont} (h : k.okB p = true) : k.offB l = true := by
  cases k with
  | cells as => exact AV.oks_off hp as h
  | col c => rfl
  | rows cs => rfl
  | obj q => cases q with
    | glob g vs => rfl
    | loop st pe tm ps asg body => exact AV.oks_off hp tm h
    | typed t as => exact AV.oks_off hp as h
    | trow t s => rfl
    | mpo fk fv es => rfl
    | mit tm n0 seen => exact AV.oks_off hp tm h
    | nest cs fo => cases h
theorem offsB_get {l : Nat} : ∀ {as : List AV} {i : Nat} {a : AV}, AV.offsB l as = true → as[i]? = some a → a.offB l = true
  | [], i, a, _, h => by simp at h
  | x :: as, 0, a, h, hi => by
    simp only [AV.offsB, Bool.and_eq_true] at h
    simp at hi; subst hi; exact h.1
  | x :: as, i + 1, a, h, hi => by
    simp only [AV.offsB, Bool.and_eq_true] at h
    exact offsB_get h.2 (by simpa using hi)
theorem Cont.off_at {l : Nat} {k : Cont} {r c : Nat} {a : AV} {b : Bool} (h : k.offB l = true) (ha : k.at r c = some (a, b)) : a.offB l = true := by
  have hcol : ∀ (cl : Col) (r : Nat) (a : AV) (b : Bool), cl.at r = (a, b) → a.offB l = true := fun cl r a b h => by
    cases cl <;> simp only [Col.at, Prod.mk.injEq] at h <;> obtain ⟨rfl, _⟩ := h <;> rfl
  cases k with
  | cells as =>
    cases c <;> simp only [Cont.at] at ha
    · split at ha
      · rename_i v hv
        cases ha
        exact offsB_get h hv
      · cases ha
    · cases ha
  | col cl =>
    cases c <;> simp only [Cont.at] at ha
    · exact hcol cl r a b (Option.some.inj ha)
    · cases ha
  | rows cs =>
    simp only [Cont.at] at ha
    split at ha
    · rename_i cl hcl
      exact hcol cl r a b (Option.some.inj ha)
    · cases ha
  | obj q => cases q with
    | typed t as =>
      cases c <;> simp only [Cont.at] at ha
      · split at ha
        · rename_i v hv
          cases ha
          exact offsB_get h hv
        · cases ha
      · cases ha
    | glob g c0 => cases c <;> (simp only [Cont.at] at ha; cases ha)
    | loop st pe tm ps asg body => cases c <;> (simp only [Cont.at] at ha; cases ha)
    | trow t s0 => cases c <;> (simp only [Cont.at] at ha; cases ha)
    | mpo fk fv es => cases c <;> (simp only [Cont.at] at ha; cases ha)
    | mit tm n0 seen => cases c <;> (simp only [Cont.at] at ha; cases ha)
    | nest cs0 fo0 =>
      simp only [Cont.at] at ha
      split at ha
      · rename_i hf
        cases ha
        obtain ⟨i, hi⟩ := foAt_get hf
        exact offsB_get h hi
      · cases ha
theorem QObj.ok.off {ρ ρ' : Rho} {nx l : Nat} {q : QObj} {i : LI} {w : World} (hρ : ∀ j, j ≠ l → ρ' j = ρ j) (h : (Cont.obj q).offB l = true) (hq : q.ok ρ nx i w) : q.ok ρ' nx i w := by
  cases q with
  | glob g vs => exact hq
  | loop st pe tm ps asg body =>
    obtain ⟨k, h1, h2, h3, h4, h5⟩ := hq
    exact ⟨k, h1, h2, h3, AV.rels.off hρ _ _ h h4, h5⟩
  | typed t l => exact hq
  | trow t s => exact hq
  | mpo fk fv es => exact hq
  | mit tm n0 seen =>
    obtain ⟨h0, bm, h1, h2⟩ := hq
    exact ⟨h0, bm, h1, AV.rels.off hρ _ _ h h2⟩
  | nest cs fo => exact hq
theorem Cont.rel_off {ρ ρ' : Rho} {nx l : Nat} {k : Cont} {cell : Nat → Option Value} (hρ : ∀ j, j ≠ l → ρ' j = ρ j) (h : k.offB l = true) (hr : k.rel ρ nx cell) : k.rel ρ' nx cell := fun r c a ha => by
  obtain ⟨h1, x, h2, h3⟩ := hr r c a ha
  exact ⟨h1, x, h2, AV.rel.off hρ a x (Cont.off_at h ha) h3⟩
/-- What is read alone. -/
def roB : List (Nat × Option ABlk) → List (Nat × Option ABlk)
  | [] => []
  | (l, some b) :: r => (l, some ⟨false, false, b.cont⟩) :: roB r
  | (l, none) :: r => (l, none) :: roB r
theorem roB_look : ∀ {bl : List (Nat × Option ABlk)} {k : Nat} {b : ABlk}, look (roB bl) k = some b → b.wr = false ∧ b.op = false ∧ ∃ b', look bl k = some b' ∧ b.cont = b'.cont
  | [], k, b, h => by cases h
  | (l, o) :: r, k, b, h => by
    cases o with
    | none =>
      simp only [roB] at h
      rw [look_cons] at h ⊢
      split at h
      · cases h
      · rename_i e
        rw [if_neg e]
        exact roB_look h
    | some b1 =>
      simp only [roB] at h
      rw [look_cons] at h ⊢
      split at h
      · rename_i e
        rw [if_pos e]
        cases h
        exact ⟨rfl, rfl, b1, rfl, rfl⟩
      · rename_i e
        rw [if_neg e]
        exact roB_look h
/-- Values that name nothing new. -/
def downA (n : Nat) : List AV → List AV
  | [] => []
  | a :: r => (match a.locsB n with | true => a | false => .unk) :: downA n r
theorem downA_rels {ρ : Rho} {nx n : Nat} : ∀ {as : List AV} {xs : List Value}, AV.rels ρ nx as xs → AV.rels ρ n (downA n as) xs
  | [], xs, h => by simpa only [AV.rels, downA] using h
  | a :: as, xs, h => by
    simp only [AV.rels, downA] at h ⊢
    obtain ⟨y, ys, e, h1, h2⟩ := h
    refine ⟨y, ys, e, ?_, downA_rels h2⟩
    cases hl : a.locsB n with
    | true => exact AV.rel.down a y hl h1
    | false => simp only [AV.rel]
theorem downA_getD (n : Nat) : ∀ (as : List AV) (t : Nat), (downA n as).getD t .unk = (match (as.getD t .unk).locsB n with | true => as.getD t .unk | false => .unk)
  | [], t => by simp [downA, AV.locsB]
  | a :: as, 0 => by simp [downA]
  | a :: as, t + 1 => by
    have := downA_getD n as t
    simpa [downA] using this
theorem downA_gd {n i : Nat} {as : List AV} {t : Nat} {w g : Bool} {v : AV} (h : (downA n as)[i]? = some (.gd t w g v)) : as[i]? = some (.gd t w g v) := by
  have h1 : (downA n as).getD i .unk = .gd t w g v := by simp [List.getD, h]
  rw [downA_getD] at h1
  split at h1
  · simp only [List.getD] at h1
    cases e : as[i]? with
    | none => rw [e] at h1; cases h1
    | some a => rw [e] at h1; exact congrArg some h1
  · cases h1
theorem MRel.roB {ρ : Rho} {m : MS} {w : World} {n : Nat} (h : MRel ρ m w) (hn : ∀ k b, look m.bl k = some b → k < n ∧ b.cont.locsB n = true) : MRel ρ ⟨roB m.bl, n⟩ w := by
  refine ⟨fun k b hk => ?_, fun k b k' b' hk _ hw => ?_, fun k b k' b' hk _ hw => ?_⟩
  · obtain ⟨h1, h2, b', h3, h4⟩ := roB_look hk
    obtain ⟨g1, g2⟩ := hn k b' h3
    refine ⟨g1, ?_⟩
    have hb := (h.blk k b' h3).2
    refine ⟨?_, ?_, ?_, ?_, fun q hq => (hb.obj q (by rw [← h4]; exact hq)).down (by rw [← hq, h4]; exact g2)⟩
    · rcases hb.lt with hlt | hv
      · exact .inl hlt
      · exact .inr ⟨h1, h2, by rw [h4]; exact hv.2.2⟩
    · rw [h4]; exact Cont.down g2 hb.rel
    · intro hw; rw [h1] at hw; cases hw
    · intro hw; rw [h2] at hw; cases hw
  · rw [(roB_look hk).1] at hw; cases hw
  · rw [(roB_look hk).1] at hw; cases hw
/-- A step that leaves all that was, and makes one block, goes at any time. -/
theorem new_at {ρ ρ2 : Rho} {mL ms m' : MS} {w w2 : World} {b : ABlk} {l N0 : Nat} {v : AV} {x : Value} (hL : MRel ρ mL w) (hl : l < mL.nx) (hno : look mL.bl l = none) (hB : N0 ≤ l) (hloc : ∀ k bk, look mL.bl k = some bk → bk.cont.offB l = true)
    (hro : ∀ k bk, look ms.bl k = some bk → bk.wr = false) (h2 : MRel ρ2 m' w2) (mv : Moves l ρ ρ2 ms m' w w2) (hb : look m'.bl l = some b) (hw : b.wr = true) (hbl : b.cont.locsB l = true) (hflat : b.cont.nested = false) (hv : v.locsB (l + 1) = true) (hx : AV.rel ρ2 m'.nx v x) :
    ∃ ρ' : Rho, (∀ k, k ≠ l → ρ' k = ρ k) ∧ AV.rel ρ' mL.nx v x ∧ MRel ρ' ⟨(l, some b) :: mL.bl, mL.nx⟩ w2 ∧ Moves N0 ρ ρ' mL ⟨(l, some b) :: mL.bl, mL.nx⟩ w w2 := by
  have hnw : ∀ g, ¬ Wr ρ ms g := fun g ⟨k, bk, h1, h3, _⟩ => by rw [hro k bk h1] at h3; cases h3
  have hkeep : ∀ g, g < w.heap.size → w2.heap[g]? = w.heap[g]? := fun g hg => mv.keep g hg (hnw g)
  have hfr : w.heap.size ≤ (ρ2 l).b := (mv.fresh (ρ2 l).b ⟨l, b, hb, hw, rfl⟩).resolve_left (hnw _)
  have hlow : ∀ k, k < l → ρ2 k = ρ k := fun k hk => mv.ext k hk
  have hbk := (h2.blk l b hb).2
  let ρ' : Rho := fun k => if k = l then ρ2 l else ρ k
  have hne : ∀ k, k ≠ l → ρ' k = ρ k := fun k hk => if_neg hk
  have hself : ρ' l = ρ2 l := if_pos rfl
  have hin : ∀ k, k < l + 1 → ρ' k = ρ2 k := fun k hk => by
    by_cases e : k = l
    · subst e; exact hself
    · rw [hne k e, hlow k (by omega)]
  have key : ∀ k bk, look ((l, some b) :: mL.bl) k = some bk → (k = l ∧ bk = b) ∨ (k ≠ l ∧ look mL.bl k = some bk) := fun k bk h => by
    rw [look_cons] at h
    split at h
    · rename_i e; cases h; exact .inl ⟨e.symm, rfl⟩
    · rename_i e; exact .inr ⟨fun h => e h.symm, h⟩
  refine ⟨ρ', hne, AV.rel.ext hin (by omega) v x (AV.rel.down v x hv hx), ⟨fun k bk hk => ?_, fun k bk k' bk' hk hk' hw' hnn hnv => ?_, fun k bk k' bk' hk hk' hw' hn2 => ?_⟩, ⟨fun k hk => hne k (by omega), by show N0 ≤ mL.nx; omega, mv.os, mv.tape, mv.output, mv.size, fun g hg _ => hkeep g hg, fun g ⟨k, bk, h1, h3, h4⟩ => ?_⟩⟩
  · rcases key k bk hk with ⟨rfl, rfl⟩ | ⟨hkl, hk⟩
    · refine ⟨hl, ?_⟩
      rw [hself]
      exact ⟨hbk.lt, (Cont.down hbl hbk.rel).ext (fun j hj => hin j (by omega)) (Nat.le_of_lt hl) fun j x hx => hx, hbk.free, hbk.room, fun q hq => ((hbk.obj q hq).down (by rw [← hq]; exact hbl)).ext (fun j hj => hin j (by omega)) (Nat.le_of_lt hl) rfl (Nat.le_refl _) (fun _ _ _ => rfl)⟩
    · have hk1 := hL.blk k bk hk
      refine ⟨hk1.1, ?_⟩
      rw [hne k hkl]
      have hk2 : bk.ok ρ mL.nx (ρ k) w2 := by
        rcases hk1.2.lt with hlt | hvd
        · exact hk1.2.ext (fun _ _ => rfl) (Nat.le_refl _) mv.size (hkeep _ hlt) fun hn' g hg => hkeep g (hk1.2.tlt hn' g hg)
        · exact ABlk.ok.any hvd _
      exact ⟨hk2.lt, Cont.rel_off hne (hloc k bk hk) hk2.rel, hk2.free, hk2.room, fun q hq => (hk2.obj q hq).off hne (by rw [← hq]; exact hloc k bk hk)⟩
  · rcases key k bk hk with ⟨rfl, rfl⟩ | ⟨hkl, hk⟩
    · rcases key k' bk' hk' with ⟨rfl, _⟩ | ⟨hkl', hk'⟩
      · exact absurd rfl hnn
      · rw [hself, hne k' hkl']
        have := (hL.blk k' bk' hk').2.lt.resolve_right hnv
        omega
    · have h1 := (hL.blk k bk hk).2.lt.resolve_right (wr_not_void hw')
      rcases key k' bk' hk' with ⟨rfl, rfl⟩ | ⟨hkl', hk'⟩
      · rw [hself, hne k hkl]
        omega
      · rw [hne k hkl, hne k' hkl']
        exact hL.apart k bk k' bk' hk hk' hw' hnn hnv
  · rcases key k' bk' hk' with ⟨rfl, rfl⟩ | ⟨hkl', hk'⟩
    · rw [hflat] at hn2; cases hn2
    · rw [hne k' hkl']
      have g2 := hL.blk k' bk' hk'
      rcases key k bk hk with ⟨rfl, rfl⟩ | ⟨hkl, hk⟩
      · rw [hself]
        cases hbt : (ρ k').tg.testBit (ρ2 k).b with
        | false => rfl
        | true => have := g2.2.tlt hn2 _ hbt; omega
      · rw [hne k hkl]
        exact hL.deep k bk k' bk' hk hk' hw' hn2
  · rcases key k bk h1 with ⟨rfl, rfl⟩ | ⟨hkl, hk⟩
    · rw [← h4, hself]
      exact .inr hfr
    · rw [hne k hkl] at h4
      exact .inl ⟨k, bk, hk, h3, h4⟩
/-- What was surely made before the i-th operation. -/
def pB (ms : List Nat) (n N0 i k : Nat) : Bool := match Nat.blt k N0 with
  | true => true
  | false => match Nat.beq k (N0 + i) with
    | true => true
    | false => match Nat.ble (N0 + n) k with
      | true => true
      | false => bitOf ms i (k - N0)
def filtB (ms : List Nat) (N0 i : Nat) : List (Nat × Option ABlk) → List (Nat × Option ABlk)
  | [] => []
  | (k, o) :: r => match Nat.blt k N0 with
    | true => (k, o) :: r
    | false => match bitOf ms i (k - N0) with
      | true => (k, o) :: filtB ms N0 i r
      | false => filtB ms N0 i r
/-- New names stand ahead of old ones. -/
def NewAhead (N0 : Nat) : List (Nat × Option ABlk) → Prop
  | [] => True
  | (k, _) :: r => (N0 ≤ k ∧ NewAhead N0 r) ∨ (k < N0 ∧ ∀ j, N0 ≤ j → look r j = none)
theorem filtB_look {ms : List Nat} {N0 i : Nat} : ∀ {bl : List (Nat × Option ABlk)} {k : Nat}, NewAhead N0 bl → look (filtB ms N0 i bl) k = if k < N0 then look bl k else if bitOf ms i (k - N0) = true then look bl k else none
  | [], k, _ => by simp [filtB, look]
  | (j, o) :: r, k, hN => by
    simp only [filtB]
    rcases hN with ⟨hj, hN⟩ | ⟨hj, hold⟩
    · rw [show Nat.blt j N0 = false by
        cases e : Nat.blt j N0 with
        | false => rfl
        | true => have : j < N0 := by simpa [Nat.blt_eq] using e
                  omega]
      dsimp only
      have IH := filtB_look (ms := ms) (i := i) (k := k) hN
      cases hb : bitOf ms i (j - N0) with
      | true =>
        dsimp only
        rw [look_cons, look_cons, IH]
        by_cases e : j = k
        · subst e
          rw [if_pos rfl, if_neg (by omega), if_pos hb, if_pos rfl]
        · simp only [if_neg e]
      | false =>
        dsimp only
        rw [IH, look_cons]
        by_cases e : j = k
        · subst e
          simp [hb, show ¬ j < N0 by omega]
        · simp only [if_neg e]
    · rw [show Nat.blt j N0 = true by simpa [Nat.blt_eq] using hj]
      dsimp only
      by_cases hk : k < N0
      · rw [if_pos hk]
      · rw [if_neg hk, look_cons, if_neg (by omega), hold k (by omega)]
        simp
end Go.Proofs.Ytmjpikkloofakaa

namespace Go.Proofs.Ytmjpikkloofakaa
open Go Go.RowKit
section
variable {ops : Array Oper} {d : Nat → Option Tmp} {v : Nat → AV} {tm : List AV} {listed : Array Bool} {i : Nat} {oi : Oper}
/-- What stands in the masks is listed; what waits is not. -/
theorem mask_before (hc : ClosedL ops listed) (hi : i ∈ Region.ready .any ops listed) (hoi : ops[i]? = some oi) : ∀ j, bitOf (masks ops.toList []) i j = true → listed.getD j false = true := fun j hj => by
  obtain ⟨_, o', ho', hdep⟩ := mem_ready.1 hi
  have : o' = oi := Option.some.inj (ho'.symm.trans hoi)
  subst this
  have hml : (masks ops.toList []).length = ops.size := by
    have := (masks_ok (listed := listed) ops.toList [] [] rfl (by simpa using hc) (fun i o _ h => by simp at h)).2
    simpa using this
  exact masks_listed hc i o' (by simpa using hoi) (by rw [hml]; exact (Array.getElem?_eq_some_iff.1 hoi).1) hdep j hj
theorem mask_behind (hc : ClosedL ops listed) (hif : listed.getD i false = false) : ∀ j oj, ops[j]? = some oj → bitOf (masks ops.toList []) j i = true → listed.getD j false = false := fun j oj hoj hj => by
  cases hl : listed.getD j false with
  | false => rfl
  | true =>
    have hml : (masks ops.toList []).length = ops.size := by
      have := (masks_ok (listed := listed) ops.toList [] [] rfl (by simpa using hc) (fun i o _ h => by simp at h)).2
      simpa using this
    have := masks_listed hc j oj (by simpa using hoj) (by rw [hml]; exact (Array.getElem?_eq_some_iff.1 hoj).1) (fun e he hb => hc.2 j oj hoj hl e he hb) i hj
    rw [hif] at this
    cases this
theorem TS_looks (hc : ClosedL ops listed) (hi : i ∈ Region.ready .any ops listed) (hoi : ops[i]? = some oi) (hif : listed.getD i false = false) (hdn : ∀ i t, d i = some t → ∃ o, ops[i]? = some o ∧ o.dst = some t)
    (hap : ∀ i j oi oj, i < j → ops[i]? = some oi → ops[j]? = some oj → bitOf (masks ops.toList []) j i = false → Oper.apart ops oi oj = true) :
    ∀ t, t ∈ oi.looksAt ops → (TS d v tm (fun i => listed.getD i false) ops.size).getD t .unk = (TS d v tm (fun _ => true) i).getD t .unk := fun t ht => by
  have his : i < ops.size := (Array.getElem?_eq_some_iff.1 hoi).1
  have hcut : ∀ n, i ≤ n → (TS d v tm (fun j => decide (j < i)) n).getD t .unk = (TS d v tm (fun _ => true) i).getD t .unk := by
    intro n hn
    induction n with
    | zero => have : i = 0 := by omega
              subst this; rfl
    | succ n ihn =>
      by_cases hin : i = n + 1
      · subst hin
        exact TS_same _ fun j hj _ => by simpa using hj
      · have := ihn (by omega)
        rw [← this]
        simp only [TS]
        rw [if_neg (by simp; omega)]
  rw [← hcut ops.size (by omega)]
  refine TS_same _ fun j hj hdj => ?_
  obtain ⟨oj, hoj, hdj'⟩ := hdn j t hdj
  by_cases hji : j = i
  · subst hji; rw [hif]; simp
  · rcases Nat.lt_or_ge j i with hlt | hge
    · cases hb : bitOf (masks ops.toList []) i j with
      | true => rw [mask_before hc hi hoi j hb]; simp [hlt]
      | false => exact absurd ht ((apart_looks (hap j i oj oi hlt hoj hoi hb)).1 t hdj')
    · have hgt : i < j := by omega
      cases hb : bitOf (masks ops.toList []) j i with
      | true => rw [mask_behind hc hif j oj hoj hb]; simp; omega
      | false => exact absurd ht ((apart_looks (hap i j oi oj hgt hoi hoj hb)).2.2 t hdj')
theorem set_getD (hil : i < listed.size) : ∀ j, (listed.setIfInBounds i true).getD j false = if j = i then true else listed.getD j false := fun j => by
  by_cases hji : j = i
  · subst hji; simp [hil]
  · rw [getD_set_ne false (Ne.symm hji), if_neg hji]
theorem TS_put (hc : ClosedL ops listed) (hoi : ops[i]? = some oi) (hif : listed.getD i false = false) (hdi : d i = oi.dst) (hdn : ∀ i t, d i = some t → ∃ o, ops[i]? = some o ∧ o.dst = some t)
    (hap : ∀ i j oi oj, i < j → ops[i]? = some oi → ops[j]? = some oj → bitOf (masks ops.toList []) j i = false → Oper.apart ops oi oj = true) :
    TS d v tm (fun j => (listed.setIfInBounds i true).getD j false) ops.size = putA (TS d v tm (fun j => listed.getD j false) ops.size) oi.dst (v i) := by
  have his : i < ops.size := (Array.getElem?_eq_some_iff.1 hoi).1
  have hset := set_getD (listed := listed) (i := i) (by rw [hc.1]; exact his)
  refine ext_getD (by rw [TS_len, putA_len, TS_len]) fun t => ?_
  rw [putA_getD, TS_len]
  by_cases hdt : oi.dst = some t
  · rw [TS_last (i := i) (by rw [hset]; simp) (by rw [hdi]; exact hdt) ops.size his (fun j hij hj hdj => ?_)]
    · by_cases hl : t < tm.length
      · rw [if_pos hl, if_pos ⟨hdt, hl⟩]
      · rw [if_neg hl, if_neg (fun h => hl h.2)]
        have hle : (TS d v tm (fun j => listed.getD j false) ops.size).length ≤ t := by rw [TS_len]; exact Nat.le_of_not_lt hl
        rw [List.getD_eq_getElem?_getD, List.getElem?_eq_none hle]; rfl
    · rw [hset, if_neg (by omega)]
      obtain ⟨oj, hoj, hdj'⟩ := hdn j t hdj
      cases hb : bitOf (masks ops.toList []) j i with
      | true => exact mask_behind hc hif j oj hoj hb
      | false => exact absurd hdj' ((apart_looks (hap i j oi oj hij hoi hoj hb)).2.1 t hdt)
  · rw [if_neg (fun h => hdt h.1)]
    refine TS_same _ fun j hj hdj => ?_
    rw [hset, if_neg]
    intro e
    subst e
    rw [hdi] at hdj
    exact hdt hdj
end
/-- What an operation does to memory. -/
inductive Eff where
  | no
  | add (l : Nat) (b : ABlk)
  | put (m : MS)
def Eff.on : Eff → MS → MS
  | .no, m => m
  | .add l b, m => ⟨(l, some b) :: m.bl, m.nx⟩
  | .put m', _ => m'
def ESel (ef : Nat → Eff) (m : MS) (sel : Nat → Bool) : Nat → MS
  | 0 => m
  | k + 1 => if sel k then (ef k).on (ESel ef m sel k) else ESel ef m sel k
abbrev TrB := AV × Eff × List Bool
def freshB (p : Nat → Bool) (l : Nat) (v : AV) (m' : MS) : Option ABlk := match look m'.bl l with
  | some b => match b.wr && (b.cont.okB p && (b.cont.locsB l && (v.okB p && v.locsB (l + 1)))) with
    | true => some b
    | false => none
  | none => none
def miB (ops : Array Oper) (N0 i : Nat) (m : MS) : MS := ⟨filtB (masks ops.toList []) N0 i m.bl, m.nx⟩
def stepB (P : Program) (E : Env) (ops : Array Oper) (N0 : Nat) (fr : Bool) (i : Nat) (o : Oper) (tm : List AV) (m : MS) : Option TrB := match fr with
  | true => match stepA P E ops o tm (miB ops N0 i m) with
    | some (v, none, bs) => match v.okB (pB (masks ops.toList []) ops.size N0 i) with
      | true => some (v, .no, bs)
      | false => none
    | some (_, some _, _) => match stepA P E ops o (downA (N0 + i) tm) ⟨roB (miB ops N0 i m).bl, N0 + i⟩ with
      | some (v, some m', bs) => match freshB (pB (masks ops.toList []) ops.size N0 i) (N0 + i) v m' with
        | some b => some (v, .add (N0 + i) b, bs)
        | none => none
      | _ => none
    | none => none
  | false => match stepA P E ops o tm m with
    | some (v, some m', bs) => some (v, .put m', bs)
    | some (v, none, bs) => match pureB P o && !v.okB (pB (masks ops.toList []) ops.size N0 i) with
      | true => none
      | false => some (v, .no, bs)
    | none => none
def traceB (P : Program) (E : Env) (ops : Array Oper) (N0 F : Nat) : List Oper → Nat → List AV → MS → Option (List TrB)
  | [], _, _, _ => some []
  | o :: r, i, tm, m => match stepB P E ops N0 (Nat.blt i F) i o tm m with
    | some (v, e, bs) => match traceB P E ops N0 F r (i + 1) (putA tm o.dst v) (e.on m) with
      | some t => some ((v, e, bs) :: t)
      | none => none
    | none => none
def finB (ops : List Oper) (ts : List TrB) (tm : List AV) (m : MS) : List AV × MS × List Bool := match ops, ts with
  | o :: r, (v, e, bs) :: t => match finB r t (putA tm o.dst v) (e.on m) with
    | (tm', m', bs') => (tm', m', bs ++ bs')
  | _, _ => (tm, m, [])
def vB (ts : List TrB) (i : Nat) : AV := (ts.getD i (.unk, .no, [])).1
def eB (ts : List TrB) (i : Nat) : Eff := (ts.getD i (.unk, .no, [])).2.1
theorem traceB_ok {P : Program} {E : Env} {ops : Array Oper} {N0 F : Nat} : ∀ (r pre : List Oper) (tp : List TrB) (tm0 tm : List AV) (m0 m : MS) (ts : List TrB), pre ++ r = ops.toList → tp.length = pre.length →
    tm = TS (dOf ops) (vB (tp ++ ts)) tm0 (fun _ => true) pre.length → m = ESel (eB (tp ++ ts)) m0 (fun _ => true) pre.length →
    traceB P E ops N0 F r pre.length tm m = some ts →
    ts.length = r.length ∧ (finB r ts tm m).1 = TS (dOf ops) (vB (tp ++ ts)) tm0 (fun _ => true) ops.toList.length ∧ (finB r ts tm m).2.1 = ESel (eB (tp ++ ts)) m0 (fun _ => true) ops.toList.length ∧
    ∀ i o, pre.length ≤ i → ops.toList[i]? = some o → ∃ bs, stepB P E ops N0 (Nat.blt i F) i o (TS (dOf ops) (vB (tp ++ ts)) tm0 (fun _ => true) i) (ESel (eB (tp ++ ts)) m0 (fun _ => true) i) = some (vB (tp ++ ts) i, eB (tp ++ ts) i, bs) ∧ ∀ b ∈ bs, b ∈ (finB r ts tm m).2.2
  | [], pre, tp, tm0, tm, m0, m, ts, hp, hl, ht, hm, h => by
    cases h
    have e : ops.toList.length = pre.length := by rw [← hp]; simp
    refine ⟨rfl, ?_, ?_, fun i o hi ho => ?_⟩
    · rw [e, ← ht]; rfl
    · rw [e, ← hm]; rfl
    · have := (List.getElem?_eq_some_iff.1 ho).1
      omega
  | o :: r, pre, tp, tm0, tm, m0, m, ts, hp, hl, ht, hm, h => by
    simp only [traceB] at h
    cases hs : stepB P E ops N0 (Nat.blt pre.length F) pre.length o tm m with
    | none => rw [hs] at h; cases h
    | some q =>
      obtain ⟨v, e, bs⟩ := q
      rw [hs] at h
      dsimp only at h
      cases hr : traceB P E ops N0 F r (pre.length + 1) (putA tm o.dst v) (e.on m) with
      | none => rw [hr] at h; cases h
      | some t =>
        rw [hr] at h
        cases h
        have ho : ops.toList[pre.length]? = some o := by rw [← hp]; simp
        have hd : dOf ops pre.length = o.dst := by unfold dOf; rw [ho]; rfl
        have hv : vB (tp ++ (v, e, bs) :: t) pre.length = v := by unfold vB; rw [← hl]; simp
        have he : eB (tp ++ (v, e, bs) :: t) pre.length = e := by unfold eB; rw [← hl]; simp
        have e1 : tp ++ (v, e, bs) :: t = (tp ++ [(v, e, bs)]) ++ t := by simp
        have ht' : putA tm o.dst v = TS (dOf ops) (vB (tp ++ (v, e, bs) :: t)) tm0 (fun _ => true) (pre ++ [o]).length := by
          simp only [List.length_append, List.length_singleton, TS, if_true, hd, hv, ← ht]
        have hm' : e.on m = ESel (eB (tp ++ (v, e, bs) :: t)) m0 (fun _ => true) (pre ++ [o]).length := by
          simp only [List.length_append, List.length_singleton, ESel, if_true, he, ← hm]
        have hr' : traceB P E ops N0 F r (pre ++ [o]).length (putA tm o.dst v) (e.on m) = some t := by simpa using hr
        obtain ⟨g1, g2, g3, g4⟩ := traceB_ok r (pre ++ [o]) (tp ++ [(v, e, bs)]) tm0 (putA tm o.dst v) m0 (e.on m) t (by rw [← hp]; simp) (by simp [hl]) (by rw [← e1]; exact ht') (by rw [← e1]; exact hm') hr'
        rw [← e1] at g2 g3 g4
        refine ⟨by simp [g1], ?_, ?_, fun i oi hi hoi => ?_⟩
        · rw [← g2]; simp only [finB]
        · rw [← g3]; simp only [finB]
        · by_cases hip : i = pre.length
          · subst hip
            rw [ho] at hoi
            cases hoi
            refine ⟨bs, ?_, fun b hb => by simp only [finB]; simp [hb]⟩
            rw [← ht, ← hm, hv, he]
            exact hs
          · obtain ⟨bs', h1, h2⟩ := g4 i oi (by simp; omega) hoi
            refine ⟨bs', h1, fun b hb => ?_⟩
            have := h2 b hb
            simp only [finB]
            simp [this]
def isStore (o : Oper) : Bool := match o.op with
  | .store .. => true
  | .mapUpdate .. => true
  | _ => false
def frontN : List Oper → Nat
  | [] => 0
  | o :: r => match isStore o with
    | true => 0
    | false => frontN r + 1
/-- All that stands ahead of one behind the front is ahead of it in every order; in front nothing gets in the way of another. -/
def pairsB (P : Program) (ops : Array Oper) (ms : List Nat) (F : Nat) (l : List Oper) : Bool :=
  (List.range l.length).all fun j => (List.range j).all fun i => bitOf ms j i || (match l[i]?, l[j]? with
    | some x, some y => Oper.apart ops x y && (Nat.blt j F || (pureB P x || pureB P y))
    | _, _ => false)
/-- All names are old ones. -/
def namesB (n : Nat) : List (Nat × Option ABlk) → Bool
  | [] => true
  | (k, _) :: r => Nat.blt k n && namesB n r
/-- The front ends ahead of the first append, too. -/
def isGrow (o : Oper) : Bool := match o.op with
  | .call c => match c.callee with
    | .builtin .append => true
    | _ => false
  | _ => isStore o
def frontA : List Oper → Nat
  | [] => 0
  | o :: r => match isGrow o with
    | true => 0
    | false => frontA r + 1
/-- The front holds the first append. -/
def frontB : List Oper → Nat
  | [] => 0
  | o :: r => match isStore o with
    | true => 0
    | false => match isGrow o with
      | true => frontA r + 1
      | false => frontB r + 1
/-- The front ends ahead of the first call of a function. -/
def isCall (o : Oper) : Bool := match o.op with
  | .call c => match c.callee with
    | .builtin _ => isGrow o
    | _ => true
  | _ => isStore o
def frontC : List Oper → Nat
  | [] => 0
  | o :: r => match isCall o with
    | true => 0
    | false => frontC r + 1
def drawBF (P : Program) (E : Env) (fr : List Oper → Nat) (ops : Array Oper) (tm : List AV) (m : MS) : Option (List AV × MS × List Bool) :=
  match traceB P E ops m.nx (fr ops.toList) ops.toList 0 tm ⟨m.bl, m.nx + ops.size⟩ with
  | some ts => match Region.noSelect ops && (edgesOk ops.toList && (guardsOk ops.toList && (guardsAhead (masks ops.toList []) ops.toList && (pairsB P ops (masks ops.toList []) (fr ops.toList) ops.toList && (AV.locsBs m.nx tm && (blocksB m.nx m.bl && namesB m.nx m.bl)))))) with
    | true => some (finB ops.toList ts tm ⟨m.bl, m.nx + ops.size⟩)
    | false => none
  | none => none
def drawB (P : Program) (E : Env) (ops : Array Oper) (tm : List AV) (m : MS) : Option (List AV × MS × List Bool) := drawBF P E frontN ops tm m
end Go.Proofs.Ytmjpikkloofakaa

namespace Go.Proofs.Ytmjpikkloofakaa
open Go Go.RowKit
section
variable {n l : Nat}
theorem blt_off {k : Nat} (h : Nat.blt k n = true) (hl : n ≤ l) : (!Nat.beq k l) = true := by
  have : k < n := by simpa [Nat.blt_eq] using h
  cases e : Nat.beq k l with
  | false => rfl
  | true => have := Nat.eq_of_beq_eq_true e; omega
mutual
theorem AV.off_of (hl : n ≤ l) : ∀ (a : AV), a.locsB n = true → a.offB l = true
  | .unk, _ => rfl
  | .val _, _ => rfl
  | .any _, _ => rfl
  | .ptr k w r c, h => by simp only [AV.locsB, AV.offB] at h ⊢; exact blt_off h hl
  | .sl nn k w r s m cap, h => by simp only [AV.locsB, AV.offB] at h ⊢; exact blt_off h hl
  | .gd _ _ g v, h => by simp only [AV.locsB, AV.offB] at h ⊢; exact AV.off_of hl v h
  | .clo f fs cs, h => by
    simp only [AV.locsB, AV.offB, Bool.and_eq_true] at h ⊢
    exact ⟨AV.offs_of hl fs h.1, AV.offs_of hl cs h.2⟩
  | .agg cs, h => by simp only [AV.locsB, AV.offB] at h ⊢; exact AV.offs_of hl cs h
  | .tup cs, h => by simp only [AV.locsB, AV.offB] at h ⊢; exact AV.offs_of hl cs h
  | .yld k, h => by simp only [AV.locsB, AV.offB] at h ⊢; exact blt_off h hl
  | .mp k, h => by simp only [AV.locsB, AV.offB] at h ⊢; exact blt_off h hl
theorem AV.offs_of (hl : n ≤ l) : ∀ (as : List AV), AV.locsBs n as = true → AV.offsB l as = true
  | [], _ => rfl
  | a :: as, h => by
    simp only [AV.locsBs, AV.offsB, Bool.and_eq_true] at h ⊢
    exact ⟨AV.off_of hl a h.1, AV.offs_of hl as h.2⟩
end
theorem offsB_set : ∀ {as : List AV} {i : Nat} {a : AV}, AV.offsB l as = true → a.offB l = true → AV.offsB l (as.set i a) = true
  | [], _, _, _, _ => rfl
  | b :: as, 0, a, h, ha => by
    simp only [List.set_cons_zero, AV.offsB, Bool.and_eq_true] at h ⊢
    exact ⟨ha, h.2⟩
  | b :: as, i + 1, a, h, ha => by
    simp only [List.set_cons_succ, AV.offsB, Bool.and_eq_true] at h ⊢
    exact ⟨h.1, offsB_set h.2 ha⟩
theorem putA_off {tm : List AV} {d : Option Tmp} {v : AV} (h : AV.offsB l tm = true) (hv : v.offB l = true) : AV.offsB l (putA tm d v) = true := by
  cases d with
  | none => exact h
  | some t => exact offsB_set h hv
end
theorem TS_off {d : Nat → Option Tmp} {v : Nat → AV} {tm : List AV} {sel : Nat → Bool} {l : Nat} (h : AV.offsB l tm = true) : ∀ k, (∀ j, j < k → sel j = true → (v j).offB l = true) → AV.offsB l (TS d v tm sel k) = true
  | 0, _ => h
  | k + 1, hv => by
    simp only [TS]
    split
    · rename_i hs
      exact putA_off (TS_off h k fun j hj => hv j (by omega)) (hv k (by omega) hs)
    · exact TS_off h k fun j hj => hv j (by omega)
def addOf : Eff → Option ABlk
  | .add _ b => some b
  | _ => none
/-- In front: nothing, or a place of its own. -/
def FrontE (N0 : Nat) (ef : Nat → Eff) (j : Nat) : Prop := ef j = .no ∨ ∃ b, ef j = .add (N0 + j) b
theorem ES_front {N0 : Nat} {ef : Nat → Eff} {m : MS} {sel : Nat → Bool} : ∀ k, (∀ j, j < k → sel j = true → FrontE N0 ef j) →
    (ESel ef m sel k).nx = m.nx ∧ (∀ l, l < N0 → look (ESel ef m sel k).bl l = look m.bl l) ∧ ∀ j, look (ESel ef m sel k).bl (N0 + j) = if j < k ∧ sel j = true ∧ (addOf (ef j)).isSome = true then addOf (ef j) else look m.bl (N0 + j)
  | 0, _ => ⟨rfl, fun _ _ => rfl, fun j => by rw [if_neg (by omega)]; rfl⟩
  | k + 1, h => by
    obtain ⟨h1, h2, h3⟩ := ES_front k fun j hj => h j (by omega)
    simp only [ESel]
    by_cases hs : sel k = true
    · rw [if_pos hs]
      rcases h k (by omega) hs with e | ⟨b, e⟩
      · rw [e]
        refine ⟨h1, h2, fun j => ?_⟩
        show look (ESel ef m sel k).bl (N0 + j) = _
        rw [h3 j]
        by_cases hj : j = k
        · subst hj
          rw [if_neg (by omega), if_neg]
          rw [e]
          simp [addOf]
        · have : j < k + 1 ↔ j < k := by omega
          simp only [this]
      · rw [e]
        refine ⟨h1, fun l hl => ?_, fun j => ?_⟩
        · show look ((N0 + k, some b) :: (ESel ef m sel k).bl) l = _
          rw [look_cons, if_neg (by omega)]
          exact h2 l hl
        · show look ((N0 + k, some b) :: (ESel ef m sel k).bl) (N0 + j) = _
          rw [look_cons]
          by_cases hj : j = k
          · subst hj
            rw [if_pos rfl, if_pos ⟨by omega, hs, by rw [e]; rfl⟩, e]
            rfl
          · rw [if_neg (by omega), h3 j]
            have : j < k + 1 ↔ j < k := by omega
            simp only [this]
    · rw [if_neg hs]
      refine ⟨h1, h2, fun j => ?_⟩
      rw [h3 j]
      by_cases hj : j = k
      · subst hj
        rw [if_neg (by omega), if_neg (fun h => hs h.2.1)]
      · have : j < k + 1 ↔ j < k := by omega
        simp only [this]
theorem ESel_same {ef : Nat → Eff} {m : MS} {sel sel' : Nat → Bool} : ∀ k, (∀ j, j < k → sel j = sel' j) → ESel ef m sel k = ESel ef m sel' k
  | 0, _ => rfl
  | k + 1, h => by simp only [ESel]; rw [ESel_same k fun j hj => h j (by omega), h k (by omega)]
/-- What lies behind i is not there. -/
theorem ESel_eff {ef : Nat → Eff} {m : MS} {sel sel' : Nat → Bool} : ∀ k, (∀ j, j < k → sel j = sel' j ∨ ef j = .no) → ESel ef m sel k = ESel ef m sel' k
  | 0, _ => rfl
  | k + 1, h => by
    have IH := ESel_eff (ef := ef) (m := m) (sel := sel) (sel' := sel') k fun j hj => h j (by omega)
    simp only [ESel]
    rcases h k (by omega) with e | e
    · rw [e, IH]
    · rw [e, IH]
      cases sel k <;> cases sel' k <;> rfl
theorem ESel_cut {ef : Nat → Eff} {m : MS} {sel : Nat → Bool} {i : Nat} : ∀ k, i ≤ k → (∀ j, i ≤ j → j < k → sel j = false) → ESel ef m sel k = ESel ef m sel i
  | 0, h, _ => by have : i = 0 := by omega
                  subst this; rfl
  | k + 1, h, hj => by
    by_cases e : i = k + 1
    · subst e; rfl
    · simp only [ESel]
      rw [if_neg (by rw [hj k (by omega) (by omega)]; exact Bool.false_ne_true)]
      exact ESel_cut k (by omega) fun j h1 h2 => hj j h1 (by omega)
theorem ESel_no {ef : Nat → Eff} {m : MS} {sel sel' : Nat → Bool} {i : Nat} (he : ef i = .no) (h : ∀ j, j ≠ i → sel j = sel' j) : ∀ k, ESel ef m sel k = ESel ef m sel' k
  | 0 => rfl
  | k + 1 => by
    simp only [ESel]
    rw [ESel_no he h k]
    by_cases hk : k = i
    · subst hk
      rw [he]
      show (if sel k then ESel ef m sel' k else ESel ef m sel' k) = if sel' k then ESel ef m sel' k else ESel ef m sel' k
      simp
    · rw [h k hk]
mutual
theorem AV.locs_up {n n' : Nat} (hn : n ≤ n') : ∀ (a : AV), a.locsB n = true → a.locsB n' = true
  | .unk, _ => rfl
  | .val _, _ => rfl
  | .any _, _ => rfl
  | .ptr k w r c, h => by simp only [AV.locsB, Nat.blt_eq] at h ⊢; omega
  | .sl nn k w r s m cap, h => by simp only [AV.locsB, Nat.blt_eq] at h ⊢; omega
  | .gd _ _ g v, h => by simp only [AV.locsB] at h ⊢; exact AV.locs_up hn v h
  | .clo f fs cs, h => by
    simp only [AV.locsB, Bool.and_eq_true] at h ⊢
    exact ⟨AV.locss_up hn fs h.1, AV.locss_up hn cs h.2⟩
  | .agg cs, h => by simp only [AV.locsB] at h ⊢; exact AV.locss_up hn cs h
  | .tup cs, h => by simp only [AV.locsB] at h ⊢; exact AV.locss_up hn cs h
  | .yld k, h => by simp only [AV.locsB, Nat.blt_eq] at h ⊢; omega
  | .mp k, h => by simp only [AV.locsB, Nat.blt_eq] at h ⊢; omega
theorem AV.locss_up {n n' : Nat} (hn : n ≤ n') : ∀ (as : List AV), AV.locsBs n as = true → AV.locsBs n' as = true
  | [], _ => rfl
  | a :: as, h => by
    simp only [AV.locsBs, Bool.and_eq_true] at h ⊢
    exact ⟨AV.locs_up hn a h.1, AV.locss_up hn as h.2⟩
end
theorem Cont.locs_up {n n' : Nat} (hn : n ≤ n') {k : Cont} (h : k.locsB n = true) : k.locsB n' = true := by
  cases k with
  | cells l => exact AV.locss_up hn l h
  | col _ => rfl
  | rows _ => rfl
  | obj q => cases q with
    | glob g vs => rfl
    | loop st pe tm ps asg body => exact AV.locss_up hn tm h
    | typed t l => exact AV.locss_up hn l h
    | trow t s => rfl
    | mpo fk fv es => rfl
    | mit tm n0 seen => exact AV.locss_up hn tm h
    | nest cs fo => exact AV.locss_up hn (foAVs fo) h
theorem Cont.locs_off {n l : Nat} (hl : n ≤ l) {k : Cont} (h : k.locsB n = true) : k.offB l = true := by
  cases k with
  | cells as => exact AV.offs_of hl as h
  | col c => rfl
  | rows cs => rfl
  | obj q => cases q with
    | glob g vs => rfl
    | loop st pe tm ps asg body => exact AV.offs_of hl tm h
    | typed t as => exact AV.offs_of hl as h
    | trow t s => rfl
    | mpo fk fv es => rfl
    | mit tm n0 seen => exact AV.offs_of hl tm h
    | nest cs fo => exact AV.offs_of hl (foAVs fo) h
theorem locsBs_off {n l : Nat} {as : List AV} (h : AV.locsBs n as = true) (hl : n ≤ l) : AV.offsB l as = true := AV.offs_of hl as h
section
variable {P : Program} {E : Env}
theorem stepB_front {ops : Array Oper} {N0 i : Nat} {o : Oper} {tm : List AV} {m : MS} {v : AV} {e : Eff} {bs : List Bool} (h : stepB P E ops N0 true i o tm m = some (v, e, bs)) :
    (∃ b m', stepA P E ops o (downA (N0 + i) tm) ⟨roB (miB ops N0 i m).bl, N0 + i⟩ = some (v, some m', bs) ∧ look m'.bl (N0 + i) = some b ∧ b.wr = true ∧ b.cont.okB (pB (masks ops.toList []) ops.size N0 i) = true ∧ b.cont.locsB (N0 + i) = true ∧ v.okB (pB (masks ops.toList []) ops.size N0 i) = true ∧ v.locsB (N0 + i + 1) = true ∧ e = .add (N0 + i) b) ∨
    (stepA P E ops o tm (miB ops N0 i m) = some (v, none, bs) ∧ v.okB (pB (masks ops.toList []) ops.size N0 i) = true ∧ e = .no) := by
  simp only [stepB] at h
  cases hs : stepA P E ops o tm (miB ops N0 i m) with
  | none => rw [hs] at h; cases h
  | some q =>
    obtain ⟨v', mo, bs'⟩ := q
    rw [hs] at h
    cases mo with
    | some mz =>
      dsimp only at h
      cases hs2 : stepA P E ops o (downA (N0 + i) tm) ⟨roB (miB ops N0 i m).bl, N0 + i⟩ with
      | none => rw [hs2] at h; cases h
      | some q =>
        obtain ⟨v2, mo2, bs2⟩ := q
        rw [hs2] at h
        cases mo2 with
        | none => cases h
        | some m2 =>
          dsimp only at h
          unfold freshB at h
          cases hl : look m2.bl (N0 + i) with
          | none => rw [hl] at h; cases h
          | some b =>
            rw [hl] at h
            dsimp only at h
            split at h
            · rename_i b' hb'
              split at hb'
              · rename_i hc
                cases hb'
                cases h
                simp only [Bool.and_eq_true] at hc
                exact .inl ⟨b, m2, rfl, hl, hc.1, hc.2.1, hc.2.2.1, hc.2.2.2.1, hc.2.2.2.2, rfl⟩
              · cases hb'
            · cases h
    | none =>
      dsimp only at h
      cases hl : v'.okB (pB (masks ops.toList []) ops.size N0 i) with
      | false => rw [hl] at h; cases h
      | true => rw [hl] at h; cases h; exact .inr ⟨rfl, hl, rfl⟩
theorem stepB_back {ops : Array Oper} {N0 l : Nat} {o : Oper} {tm : List AV} {m : MS} {v : AV} {e : Eff} {bs : List Bool} (h : stepB P E ops N0 false l o tm m = some (v, e, bs)) :
    ∃ mo, stepA P E ops o tm m = some (v, mo, bs) ∧ e.on m = mo.getD m ∧ (pureB P o = true → e = .no ∧ v.okB (pB (masks ops.toList []) ops.size N0 l) = true) := by
  simp only [stepB] at h
  cases hs : stepA P E ops o tm m with
  | none => rw [hs] at h; cases h
  | some q =>
    obtain ⟨v', mo, bs'⟩ := q
    rw [hs] at h
    cases mo with
    | none =>
      dsimp only at h
      split at h
      · cases h
      · rename_i hc
        cases h
        refine ⟨none, rfl, rfl, fun hp => ⟨rfl, ?_⟩⟩
        rw [hp, Bool.true_and] at hc
        simpa using hc
    | some m' =>
      cases h
      exact ⟨some m', rfl, rfl, fun hp => by have := pure_none hp hs; cases this⟩
/-- An operation that sees no memory. -/
theorem stepB_pure {ops : Array Oper} {N0 i : Nat} {o : Oper} {tm : List AV} {m : MS} {v : AV} {e : Eff} {bs : List Bool} {fr : Bool} (hp : pureB P o = true) (h : stepB P E ops N0 fr i o tm m = some (v, e, bs)) :
    (∀ m', stepA P E ops o tm m' = some (v, none, bs)) ∧ e = .no ∧ v.okB (pB (masks ops.toList []) ops.size N0 i) = true := by
  cases fr with
  | true =>
    rcases stepB_front h with ⟨b, m2, hs, _⟩ | ⟨hs, hv, he⟩
    · have := pure_none hp hs; cases this
    · exact ⟨fun m' => by rw [pure_any hp m']; exact hs, he, hv⟩
  | false =>
    obtain ⟨mo, hs, hm, hr⟩ := stepB_back h
    obtain ⟨he, hv⟩ := hr hp
    have := pure_none hp hs
    subst this
    exact ⟨fun m' => by rw [pure_any hp m']; exact hs, he, hv⟩
/-- The names of new blocks stand ahead. -/
theorem ESel_ahead {N0 : Nat} {ef : Nat → Eff} {m : MS} {sel : Nat → Bool} (hm : NewAhead N0 m.bl) : ∀ k, (∀ j, j < k → sel j = true → FrontE N0 ef j) → NewAhead N0 (ESel ef m sel k).bl
  | 0, _ => hm
  | k + 1, h => by
    have IH := ESel_ahead hm k fun j hj => h j (by omega)
    simp only [ESel]
    split
    · rename_i hs
      rcases h k (by omega) hs with he | ⟨b, he⟩
      · rw [he]; exact IH
      · rw [he]; exact .inl ⟨by omega, IH⟩
    · exact IH
theorem blocksB_ahead {N0 : Nat} : ∀ {bl : List (Nat × Option ABlk)}, namesB N0 bl = true → NewAhead N0 bl
  | [], _ => trivial
  | (k, o) :: r, h => by
    simp only [namesB, Bool.and_eq_true] at h
    refine .inr ⟨by simpa [Nat.blt_eq] using h.1, fun j hj => ?_⟩
    have hr : ∀ {r : List (Nat × Option ABlk)}, namesB N0 r = true → look r j = none := fun {r} hr => by
      induction r with
      | nil => rfl
      | cons p r ih =>
        obtain ⟨k', o'⟩ := p
        simp only [namesB, Bool.and_eq_true] at hr
        rw [look_cons, if_neg (by have : k' < N0 := by simpa [Nat.blt_eq] using hr.1
                                  omega)]
        exact ih hr.2
    exact hr h.2
variable {ops : Array Oper}
theorem drawBF_ok (fr : List Oper → Nat) (hE : ESound P E) (hm : MixedOk P) : DSound P (drawBF P E fr) := by
  intro rid ops tm m tm' m' bs h hbs B ρ a w Q ht hnogd hmr hB k
  unfold drawBF at h
  cases htr : traceB P E ops m.nx (fr ops.toList) ops.toList 0 tm ⟨m.bl, m.nx + ops.size⟩ with
  | none => rw [htr] at h; cases h
  | some ts =>
    rw [htr] at h
    dsimp only at h
    split at h
    · rename_i hck
      simp only [Bool.and_eq_true] at hck
      obtain ⟨_, hedge, hgok, hgah, hpair, hlt, hlb, hnm⟩ := hck
      generalize hF : fr ops.toList = F at *
      generalize hM0 : (⟨m.bl, m.nx + ops.size⟩ : MS) = m0 at *
      have hM0b : m0.bl = m.bl := by rw [← hM0]
      have hM0n : m0.nx = m.nx + ops.size := by rw [← hM0]
      obtain ⟨hlen, hfin1, hfin2, hall⟩ := traceB_ok (P := P) (E := E) (ops := ops) ops.toList [] [] tm tm m0 m0 ts rfl rfl rfl rfl htr
      simp only [List.nil_append, List.length_nil] at hfin1 hfin2 hall
      generalize hD : dOf ops = d at hfin1 hfin2 hall
      generalize hV : vB ts = v at hfin1 hfin2 hall
      generalize hEf : eB ts = ef at hfin1 hfin2 hall
      have hn : ops.toList.length = ops.size := by simp
      rw [hn] at hfin1 hfin2
      simp only [Option.some.injEq] at h
      have e1 : tm' = TS d v tm (fun _ => true) ops.size := by rw [← hfin1, h]
      have e2 : m' = ESel ef m0 (fun _ => true) ops.size := by rw [← hfin2, h]
      have e3 : (finB ops.toList ts tm m0).2.2 = bs := by rw [h]
      have hpr : ∀ i j oi oj, i < j → ops[i]? = some oi → ops[j]? = some oj → bitOf (masks ops.toList []) j i = false → Oper.apart ops oi oj = true ∧ (j < F ∨ pureB P oi = true ∨ pureB P oj = true) := fun i j oi oj hij hi hj hb => by
        have hjs : j < ops.size := (Array.getElem?_eq_some_iff.1 hj).1
        unfold pairsB at hpair
        have h1 := List.all_eq_true.1 hpair j (List.mem_range.2 (by rw [hn]; exact hjs))
        have h2 := List.all_eq_true.1 h1 i (List.mem_range.2 hij)
        have hi' : ops.toList[i]? = some oi := by simpa using hi
        have hj' : ops.toList[j]? = some oj := by simpa using hj
        rw [hb, Bool.false_or, hi', hj'] at h2
        simp only [Bool.and_eq_true, Bool.or_eq_true] at h2
        exact ⟨h2.1, h2.2.imp (fun h => by simpa [Nat.blt_eq] using h) id⟩
      have hap : ∀ i j oi oj, i < j → ops[i]? = some oi → ops[j]? = some oj → bitOf (masks ops.toList []) j i = false → Oper.apart ops oi oj = true := fun i j oi oj h1 h2 h3 h4 => (hpr i j oi oj h1 h2 h3 h4).1
      have hpureE : ∀ j oj, ops[j]? = some oj → pureB P oj = true → ef j = .no ∧ (v j).okB (pB (masks ops.toList []) ops.size m.nx j) = true := fun j oj hj hp => by
        have ho : ops.toList[j]? = some oj := by simpa using hj
        obtain ⟨bs1, h1, _⟩ := hall j oj (Nat.zero_le _) ho
        exact (stepB_pure hp h1).2
      have hdo : ∀ i o, ops[i]? = some o → d i = o.dst := fun i o ho => by
        rw [← hD]; unfold dOf
        have : ops.toList[i]? = some o := by simpa using ho
        rw [this]; rfl
      have hdn : ∀ i t, d i = some t → ∃ o, ops[i]? = some o ∧ o.dst = some t := fun i t hi => by
        rw [← hD] at hi; unfold dOf at hi
        cases ho : ops.toList[i]? with
        | none => rw [ho] at hi; cases hi
        | some o => rw [ho] at hi; exact ⟨o, by simpa using ho, hi⟩
      have hfrontE : ∀ j, j < ops.size → j < F → FrontE m.nx ef j ∧ (v j).okB (pB (masks ops.toList []) ops.size m.nx j) = true ∧ ∀ b, addOf (ef j) = some b → b.cont.okB (pB (masks ops.toList []) ops.size m.nx j) = true ∧ b.wr = true ∧ b.cont.locsB (m.nx + j) = true := fun j hj hjF => by
        have ho : ops.toList[j]? = some ops[j] := by simp [hj]
        obtain ⟨bs1, h1, _⟩ := hall j _ (Nat.zero_le _) ho
        rw [show Nat.blt j F = true by simpa [Nat.blt_eq] using hjF] at h1
        rcases stepB_front h1 with ⟨b, m2, _, _, hw, hok, hl, hv, _, he⟩ | ⟨_, hl, he⟩
        · refine ⟨.inr ⟨b, he⟩, hv, fun b' hb' => ?_⟩
          rw [he] at hb'
          cases hb'
          exact ⟨hok, hw, hl⟩
        · exact ⟨.inl he, hl, fun b' hb' => by rw [he] at hb'; cases hb'⟩
      have hno : ∀ j, look m0.bl (m.nx + j) = none := fun j => by
        cases hl : look m0.bl (m.nx + j) with
        | none => rfl
        | some b =>
          rw [hM0b] at hl
          have := (blocksB_look hlb hl).1
          omega
      -- what is done though something that sees memory waits ahead: it sees none
      have hback : ∀ listed, ClosedL ops listed → ∀ i oi, ops[i]? = some oi → pureB P oi = false → listed.getD i false = false → ∀ j, i < j → j < ops.size → F ≤ j → listed.getD j false = true → ef j = .no ∧ (v j).okB (pB (masks ops.toList []) ops.size m.nx j) = true := fun listed hc i oi hoi hnp hif j hij hjs hjF hjl => by
        have hoj : ops[j]? = some ops[j] := Array.getElem?_eq_getElem hjs
        cases hb : bitOf (masks ops.toList []) j i with
        | true => rw [mask_behind hc hif j _ hoj hb] at hjl; cases hjl
        | false =>
          rcases (hpr i j _ _ hij hoi hoj hb).2 with h | h | h
          · omega
          · rw [hnp] at h; cases h
          · exact hpureE j _ hoj h
      intro rnd fu
      refine wpIn_region_any hm ?_
      have key : ∀ (f : Nat) (listed : Array Bool) (a1 : Act) (w1 : World), ClosedL ops listed → listed.toList.count false = f →
          GI (TS d v tm (fun i => listed.getD i false) ops.size) a1 → Whence ops (fun k => listed.getD k false = true) (TS d v tm (fun i => listed.getD i false) ops.size) →
          (∃ ρ1, AV.rels ρ1 (ESel ef m0 (fun i => listed.getD i false) ops.size).nx (TS d v tm (fun i => listed.getD i false) ops.size) a1.tmps.toList ∧ a1.defers = a.defers ∧ MRel ρ1 (ESel ef m0 (fun i => listed.getD i false) ops.size) w1 ∧ Moves B ρ ρ1 m (ESel ef m0 (fun i => listed.getD i false) ops.size) w w1) →
          wpAnyIn (FW rnd) fu P .any ops Q f listed a1 w1 := by
        intro f
        induction f with
        | zero =>
          intro listed a1 w1 hc hcnt _ _ ⟨ρ1, g1, g2, g3, g4⟩
          have hal : ∀ i, i < ops.size → listed.getD i false = true := fun i hi => by
            cases hg : listed.getD i false with
            | true => rfl
            | false =>
              have hil : i < listed.size := by rw [hc.1]; exact hi
              have : false ∈ listed.toList := by
                simp [hil] at hg
                rw [← hg]
                exact List.mem_of_getElem? (i := i) (by simp [hil])
              have := List.count_pos_iff.2 this
              omega
          have es : TS d v tm (fun i => listed.getD i false) ops.size = tm' := by
            rw [e1]
            exact ext_getD (by rw [TS_len, TS_len]) fun t => TS_same _ fun j hj _ => hal j hj
          have em : ESel ef m0 (fun i => listed.getD i false) ops.size = m' := by
            rw [e2]
            exact ESel_same _ fun j hj => hal j hj
          rw [es, em] at g1
          rw [em] at g3 g4
          refine ⟨?_, k ρ1 a1 w1 g1 g2 g3 g4⟩
          unfold Region.ready
          rw [List.filter_eq_nil_iff]
          intro i hi
          have hil : i < listed.size := by rw [hc.1]; exact List.mem_range.1 hi
          have := hal i (List.mem_range.1 hi)
          simp [hil] at this
          simp [hil, this]
        | succ f ih =>
          intro listed a1 w1 hc hcnt hGI hWh ⟨ρ1, g1, g2, g3, g4⟩
          refine ⟨fun hnil => ?_, fun i hi => ?_⟩
          · exfalso
            have hne : false ∈ listed.toList := List.count_pos_iff.1 (by omega)
            have hex : ∃ i, i < ops.size ∧ listed.getD i false = false := by
              obtain ⟨i, hi, hv⟩ := List.getElem_of_mem hne
              refine ⟨i, by rw [← hc.1]; simpa using hi, ?_⟩
              have : i < listed.size := by simpa using hi
              simp [this]
              simpa using hv
            have hmin : ∀ n, ∀ i, i < n → i < ops.size → listed.getD i false = false → False := by
              intro n
              induction n with
              | zero => intro i hi; omega
              | succ n ihn =>
                intro i hin his hif
                have ho : ops[i]? = some ops[i] := Array.getElem?_eq_getElem his
                have hil : i < listed.size := by rw [hc.1]; exact his
                have : i ∈ Region.ready .any ops listed := by
                  rw [mem_ready]
                  refine ⟨by simp [hil] at hif ⊢; exact hif, ops[i], ho, fun e he hb => ?_⟩
                  have hee : e.on < i := by
                    have h1 := List.all_eq_true.1 hedge i (List.mem_range.2 (by simpa using his))
                    have ho' : ops.toList[i]? = some ops[i] := by simp
                    rw [ho'] at h1
                    have h2 := List.all_eq_true.1 h1 e (by simpa using he)
                    rw [hb] at h2
                    simpa using h2
                  cases hl : listed.getD e.on false with
                  | true => rfl
                  | false => exact (ihn e.on (by omega) (by omega) hl).elim
                rw [hnil] at this
                cases this
            obtain ⟨i, hi1, hi2⟩ := hex
            exact hmin (i + 1) i (by omega) hi1 hi2
          · have hi0 := hi
            obtain ⟨hiun, oi, hoi, hdep⟩ := mem_ready.1 hi0
            have his : i < ops.size := (Array.getElem?_eq_some_iff.1 hoi).1
            have hoi' : ops.toList[i]? = some oi := by simpa using hoi
            have hil : i < listed.size := by rw [hc.1]; exact his
            have hif : listed.getD i false = false := by simp [hil] at hiun ⊢; exact hiun
            obtain ⟨bsi, hstep, hbsi⟩ := hall i oi (Nat.zero_le _) hoi'
            have hlooks := TS_looks (tm := tm) (v := v) hc hi0 hoi hif hdn hap
            have hTS := TS_put (tm := tm) (v := v) hc hoi hif (hdo i oi hoi) hdn hap
            have hset := set_getD (listed := listed) (i := i) hil
            have hbsi' : bsi.all id = true := by
              rw [List.all_eq_true] at hbs ⊢
              intro b hb
              refine hbs b ?_
              rw [← e3]
              exact hbsi b hb
            have hmk := masks_listed hc
            have hml : (masks ops.toList []).length = ops.size := by
              have := (masks_ok (listed := listed) ops.toList [] [] rfl (by simpa using hc) (fun i o _ h => by simp at h)).2
              simpa using this
            have hguard : ∀ k' o' j w', listed.getD k' false = true → ops[k']? = some o' → o'.guard = some (j, w') → j ≠ i := fun k' o' j w' hk' ho1 hg1 hj => by
              have hk1 : ops.toList[k']? = some o' := by simpa using ho1
              have h1 := List.all_eq_true.1 hgah k' (List.mem_range.2 (List.getElem?_eq_some_iff.1 hk1).1)
              rw [hk1] at h1
              dsimp only at h1
              rw [hg1] at h1
              dsimp only at h1
              have h2 := hmk k' o' hk1 (by rw [hml]; exact (Array.getElem?_eq_some_iff.1 ho1).1) (fun e he hb => hc.2 k' o' ho1 hk' e he hb) j h1
              rw [hj, hif] at h2
              cases h2
            -- what is left is one thing less
            have hcount : (listed.setIfInBounds i true).toList.count false = f := by
              have := count_set listed.toList i (by
                have : listed[i]? = some false := by simp [hil] at hif ⊢; exact hif
                simpa using this)
              simp only [Array.toList_setIfInBounds]
              omega
            -- how the rest goes on
            have cont : ∀ (x : Value) (w2 : World) (ρ2 : Rho), (∀ t w g u, v i = .gd t w g u → (g = true ↔ a1.tmps[t]? = some (.bool w)) ∧ ∃ j oj, oi.guard = some (j, w) ∧ ops[j]? = some oj ∧ oj.dst = some t) →
                AV.rels ρ2 (ESel ef m0 (fun j => (listed.setIfInBounds i true).getD j false) ops.size).nx (TS d v tm (fun j => listed.getD j false) ops.size) a1.tmps.toList → AV.rel ρ2 (ESel ef m0 (fun j => (listed.setIfInBounds i true).getD j false) ops.size).nx (v i) x →
                MRel ρ2 (ESel ef m0 (fun j => (listed.setIfInBounds i true).getD j false) ops.size) w2 → Moves B ρ ρ2 m (ESel ef m0 (fun j => (listed.setIfInBounds i true).getD j false) ops.size) w w2 →
                wpAnyIn (FW rnd) fu P .any ops Q f (listed.setIfInBounds i true) (a1.put oi.dst x) w2 := fun x w2 ρ2 hvi h1 hx h2 h3 => by
              obtain ⟨n1, n2⟩ := hGI.put (x := x) hWh hgok hoi hguard hvi
              refine ih _ _ _ (hc.set_ hi0) hcount (by rw [hTS]; exact n1) (by
                rw [hTS]
                intro i1 t w g u hi1
                obtain ⟨k', o', j, w', oj, hdn, hrest⟩ := n2 i1 t w g u hi1
                refine ⟨k', o', j, w', oj, ?_, hrest⟩
                show (listed.setIfInBounds i true).getD k' false = true
                rw [hset]
                split
                · rfl
                · rename_i hne
                  exact hdn.resolve_right hne) ⟨ρ2, ?_, ?_, h2, h3⟩
              · rw [hTS]
                exact putA_ok h1 hx
              · rw [← g2]; cases oi.dst <;> rfl
            cases hpi : pureB P oi with
            | true =>
              obtain ⟨hs, he, _⟩ := stepB_pure hpi hstep
              have hES : ESel ef m0 (fun j => (listed.setIfInBounds i true).getD j false) ops.size = ESel ef m0 (fun j => listed.getD j false) ops.size := ESel_no he (fun j hj => by rw [hset, if_neg hj]) _
              refine stepA_ok hE hoi (by rw [stepA_congr hlooks]; exact hs (ESel ef m0 (fun j => listed.getD j false) ops.size)) g1 hGI g3 hbsi' (fun hvi ρ2 w2 x hx hm2 hmv => ?_) rnd fu
              refine cont x w2 ρ2 hvi ?_ ?_ ?_ ?_
              · rw [hES]; exact AV.rels.ext hmv.ext hmv.nx _ _ g1
              · rw [hES]; exact hx
              · rw [hES]; exact hm2
              · rw [hES]; exact g4.trans (hmv.base g4.nx)
            | false =>
            by_cases hiF : i < F
            · have hnoS : ∀ j, F ≤ j → j < ops.size → listed.getD j false = true → ef j = .no ∧ (v j).okB (pB (masks ops.toList []) ops.size m.nx j) = true := fun j h1 h2 hl => hback listed hc i oi hoi hpi hif j (by omega) h2 h1 hl
              have hfr : ∀ j, j < ops.size → listed.getD j false = true → FrontE m.nx ef j := fun j hj hs => by
                rcases Nat.lt_or_ge j F with h1 | h1
                · exact (hfrontE j hj h1).1
                · exact .inl (hnoS j h1 hj hs).1
              obtain ⟨x1, x2, x3⟩ := ES_front (N0 := m.nx) (ef := ef) (m := m0) (sel := fun j => listed.getD j false) ops.size hfr
              rw [show Nat.blt i F = true by simpa [Nat.blt_eq] using hiF] at hstep
              -- what was made before
              have hbefore : ∀ j, j < ops.size → bitOf (masks ops.toList []) i j = true → listed.getD j false = true := fun j _ hb => mask_before hc hi0 hoi j hb
              have hF' : ∀ j, j < i → FrontE m.nx ef j := fun j hj => (hfrontE j (by omega) (by omega)).1
              obtain ⟨z1, z2, z3⟩ := ES_front (N0 := m.nx) (ef := ef) (m := m0) (sel := fun _ => true) i fun j hj _ => hF' j hj
              have hah : NewAhead m.nx (ESel ef m0 (fun _ => true) i).bl := ESel_ahead (by rw [hM0b]; exact blocksB_ahead hnm) i fun j hj _ => hF' j hj
              have hmil : ∀ k, look (miB ops m.nx i (ESel ef m0 (fun _ => true) i)).bl k = if k < m.nx then look m0.bl k else if bitOf (masks ops.toList []) i (k - m.nx) = true then look (ESel ef m0 (fun _ => true) i).bl k else none := fun k => by
                unfold miB
                rw [filtB_look hah]
                by_cases hk : k < m.nx
                · rw [if_pos hk, if_pos hk, z2 k hk]
                · rw [if_neg hk, if_neg hk]
              have hmin : (miB ops m.nx i (ESel ef m0 (fun _ => true) i)).nx = m0.nx := z1
              generalize hMI : miB ops m.nx i (ESel ef m0 (fun _ => true) i) = mi at *
              have hmi : ∀ k b, look mi.bl k = some b → look (ESel ef m0 (fun j => listed.getD j false) ops.size).bl k = some b ∧ (k < m.nx ∨ ∃ j, k = m.nx + j ∧ j < i ∧ addOf (ef j) = some b) := fun k b hk => by
                rw [hmil k] at hk
                by_cases hkn : k < m.nx
                · rw [if_pos hkn] at hk
                  rw [x2 k hkn]
                  exact ⟨hk, .inl hkn⟩
                · rw [if_neg hkn] at hk
                  obtain ⟨j, rfl⟩ : ∃ j, k = m.nx + j := ⟨k - m.nx, by omega⟩
                  rw [show m.nx + j - m.nx = j by omega] at hk
                  split at hk
                  · rename_i hbit
                    rw [z3 j] at hk
                    split at hk
                    · rename_i hj
                      rw [x3 j, if_pos ⟨by omega, hbefore j (by omega) hbit, by rw [hk]; rfl⟩]
                      exact ⟨hk, .inr ⟨j, rfl, hj.1, hk⟩⟩
                    · rw [hno j] at hk; cases hk
                  · cases hk
              have hm0 : MRel ρ1 mi w1 := g3.less (by rw [x1, hmin]; exact Nat.le_refl _) fun l b hl => (hmi l b hl).1
              have hadd : ∀ l b, look (ESel ef m0 (fun j => listed.getD j false) ops.size).bl l = some b → look mi.bl l = some b ∨ b.wr = true ∧ look mi.bl l = none := fun l b hl => by
                rcases Nat.lt_or_ge l m.nx with h1 | h1
                · rw [x2 l h1] at hl
                  exact .inl (by rw [hmil, if_pos h1]; exact hl)
                · obtain ⟨j, rfl⟩ : ∃ j, l = m.nx + j := ⟨l - m.nx, by omega⟩
                  rw [x3 j] at hl
                  split at hl
                  · rename_i hj
                    have h2 : j < F := by
                      rcases Nat.lt_or_ge j F with h2 | h2
                      · exact h2
                      · have := hj.2.2
                        rw [(hnoS j h2 hj.1 hj.2.1).1] at this
                        cases this
                    rw [hmil, if_neg (by omega), show m.nx + j - m.nx = j by omega]
                    by_cases hbit : bitOf (masks ops.toList []) i j = true
                    · rw [if_pos hbit, z3 j]
                      by_cases hji : j < i
                      · rw [if_pos ⟨hji, rfl, hj.2.2⟩]; exact .inl hl
                      · rw [if_neg (fun h => hji h.1), hno j]
                        exact .inr ⟨((hfrontE j hj.1 h2).2.2 b hl).2.1, rfl⟩
                    · rw [if_neg hbit]
                      exact .inr ⟨((hfrontE j hj.1 h2).2.2 b hl).2.1, rfl⟩
                  · rw [hno j] at hl; cases hl
              -- nothing that is there names what is not
              have hpj : ∀ j, j < ops.size → listed.getD j false = true → pB (masks ops.toList []) ops.size m.nx j (m.nx + i) = false := fun j hj hs => by
                unfold pB
                rw [show Nat.blt (m.nx + i) m.nx = false by
                  cases e : Nat.blt (m.nx + i) m.nx with
                  | false => rfl
                  | true => have : m.nx + i < m.nx := by simpa [Nat.blt_eq] using e
                            omega]
                dsimp only
                rw [show Nat.beq (m.nx + i) (m.nx + j) = false by
                  cases e : Nat.beq (m.nx + i) (m.nx + j) with
                  | false => rfl
                  | true =>
                    have e := Nat.eq_of_beq_eq_true e
                    have : i = j := by omega
                    rw [← this, hif] at hs
                    cases hs]
                dsimp only
                rw [show Nat.ble (m.nx + ops.size) (m.nx + i) = false by
                  cases e : Nat.ble (m.nx + ops.size) (m.nx + i) with
                  | false => rfl
                  | true => have := Nat.le_of_ble_eq_true e
                            omega]
                dsimp only
                rw [show m.nx + i - m.nx = i by omega]
                cases hb : bitOf (masks ops.toList []) j i with
                | false => rfl
                | true =>
                  have hoj : ops[j]? = some ops[j] := Array.getElem?_eq_getElem hj
                  rw [mask_behind hc hif j _ hoj hb] at hs
                  cases hs
              rcases stepB_front hstep with ⟨b, m2, hs, hlk2, hbw, hbok, hbl, hvok, hvl, he⟩ | ⟨hs, hvl, he⟩
              · rw [hMI] at hs
                have hlnx : m.nx + i < (ESel ef m0 (fun j => listed.getD j false) ops.size).nx := by rw [x1, hM0n]; omega
                have hlno : look (ESel ef m0 (fun j => listed.getD j false) ops.size).bl (m.nx + i) = none := by
                  rw [x3 i, if_neg (by rw [hif]; simp)]
                  exact hno i
                have hloc : ∀ k bk, look (ESel ef m0 (fun j => listed.getD j false) ops.size).bl k = some bk → bk.cont.offB (m.nx + i) = true := fun l bk hl => by
                  rcases Nat.lt_or_ge l m.nx with h1 | h1
                  · rw [x2 l h1, hM0b] at hl
                    exact Cont.locs_off (by omega) (blocksB_look hlb hl).2
                  · obtain ⟨j, rfl⟩ : ∃ j, l = m.nx + j := ⟨l - m.nx, by omega⟩
                    rw [x3 j] at hl
                    split at hl
                    · rename_i hj
                      rcases Nat.lt_or_ge j F with h2 | h2
                      · exact Cont.ok_off (hpj j hj.1 hj.2.1) ((hfrontE j hj.1 h2).2.2 bk hl).1
                      · have := hj.2.2
                        rw [(hnoS j h2 hj.1 hj.2.1).1] at this
                        cases this
                    · rw [hno j] at hl; cases hl
                have hms : MRel ρ1 ⟨roB mi.bl, m.nx + i⟩ w1 := hm0.roB fun k b hk => by
                  rw [hmil k] at hk
                  by_cases hkn : k < m.nx
                  · rw [if_pos hkn] at hk
                    have h5 := blocksB_look hlb (by rw [← hM0b]; exact hk)
                    exact ⟨by omega, Cont.locs_up (by omega) h5.2⟩
                  · rw [if_neg hkn] at hk
                    obtain ⟨j, rfl⟩ : ∃ j, k = m.nx + j := ⟨k - m.nx, by omega⟩
                    split at hk
                    · rw [z3 j] at hk
                      split at hk
                      · rename_i hj
                        exact ⟨by omega, Cont.locs_up (by omega) ((hfrontE j (by omega) (by omega)).2.2 b hk).2.2⟩
                      · rw [hno j] at hk; cases hk
                    · cases hk
                have hlooks' : ∀ t, t ∈ oi.looksAt ops → (downA (m.nx + i) (TS d v tm (fun j => listed.getD j false) ops.size)).getD t .unk = (downA (m.nx + i) (TS d v tm (fun _ => true) i)).getD t .unk := fun t ht => by
                  rw [downA_getD, downA_getD, hlooks t ht]
                refine stepA_ok hE hoi (by rw [stepA_congr hlooks']; exact hs) (downA_rels g1) (fun i1 t w g u h1 => hGI i1 t w g u (downA_gd h1)) hms hbsi' (fun hvi ρ2 w2 x hx hm2 hmv => ?_) rnd fu
                obtain ⟨ρ3, r2, r3, r4, r5⟩ := new_at (N0 := m.nx) g3 hlnx hlno (by omega) hloc (fun k bk hk => (roB_look hk).1) hm2 hmv hlk2 hbw hbl (Cont.ok_flat hbok) hvl hx
                have hoff : AV.offsB (m.nx + i) (TS d v tm (fun j => listed.getD j false) ops.size) = true := TS_off (locsBs_off hlt (by omega)) _ fun j hj hsl => by
                  rcases Nat.lt_or_ge j F with h2 | h2
                  · exact AV.ok_off (hpj j hj hsl) _ (hfrontE j hj h2).2.1
                  · exact AV.ok_off (hpj j hj hsl) _ (hnoS j h2 hj hsl).2
                have hfr' : ∀ j, j < ops.size → (listed.setIfInBounds i true).getD j false = true → FrontE m.nx ef j := fun j hj hs => by
                  rw [hset] at hs
                  split at hs
                  · rename_i e; subst e; exact .inr ⟨b, he⟩
                  · exact hfr j hj hs
                obtain ⟨y1, y2, y3⟩ := ES_front (N0 := m.nx) (ef := ef) (m := m0) (sel := fun j => (listed.setIfInBounds i true).getD j false) ops.size hfr'
                have hlk : ∀ l, look (ESel ef m0 (fun j => (listed.setIfInBounds i true).getD j false) ops.size).bl l = look ((m.nx + i, some b) :: (ESel ef m0 (fun j => listed.getD j false) ops.size).bl) l := fun l => by
                  rw [look_cons]
                  rcases Nat.lt_or_ge l m.nx with h1 | h1
                  · rw [if_neg (by omega), y2 l h1, x2 l h1]
                  · obtain ⟨j, rfl⟩ : ∃ j, l = m.nx + j := ⟨l - m.nx, by omega⟩
                    rw [y3 j]
                    by_cases e : j = i
                    · subst e
                      rw [if_pos rfl, if_pos ⟨his, by rw [hset]; simp, by rw [he]; rfl⟩, he]
                      rfl
                    · rw [x3 j, hset, if_neg e, if_neg (show ¬ m.nx + i = m.nx + j by omega)]
                refine cont x w2 ρ3 hvi ?_ ?_ ?_ ?_
                · rw [y1, ← x1]
                  exact AV.rels.off r2 _ _ hoff g1
                · rw [y1, ← x1]
                  exact r3
                · exact r4.less (by rw [y1, ← x1]; exact Nat.le_refl _) fun l bk hl => by rw [hlk l] at hl; exact hl
                · have hmv : Moves B ρ1 ρ3 (ESel ef m0 (fun j => listed.getD j false) ops.size) ⟨(m.nx + i, some b) :: (ESel ef m0 (fun j => listed.getD j false) ops.size).bl, (ESel ef m0 (fun j => listed.getD j false) ops.size).nx⟩ w1 w2 := r5.base hB
                  have := g4.trans hmv
                  exact ⟨this.ext, by rw [y1, hM0n]; omega, this.os, this.tape, this.output, this.size, this.keep, fun g ⟨l, bk, h1, h2, h3⟩ => this.fresh g ⟨l, bk, by rw [hlk l] at h1; exact h1, h2, h3⟩⟩
              · rw [hMI] at hs
                have hES : ESel ef m0 (fun j => (listed.setIfInBounds i true).getD j false) ops.size = ESel ef m0 (fun j => listed.getD j false) ops.size := ESel_no he (fun j hj => by rw [hset, if_neg hj]) _
                refine stepA_ok hE hoi (by rw [stepA_congr hlooks]; exact hs) (by rw [hmin, ← x1]; exact g1) hGI hm0 hbsi' (fun hvi ρ2 w2 x hx hm2 hmv => ?_) rnd fu
                have hmnx : mi.nx = (ESel ef m0 (fun j => listed.getD j false) ops.size).nx := by rw [hmin, x1]
                have hsub : ∀ l b, look mi.bl l = some b → look (ESel ef m0 (fun j => listed.getD j false) ops.size).bl l = some b := fun l b hl => (hmi l b hl).1
                have hf := MRel.frame g3 hmnx hsub hadd hm2 hmv
                have hmf := Moves.frame g3 hmnx hsub hmv
                refine cont x w2 ρ2 hvi ?_ ?_ ?_ ?_
                · rw [hES]
                  exact AV.rels.ext hmf.ext (Nat.le_refl _) _ _ g1
                · rw [hES, ← hmnx]
                  exact hx
                · rw [hES]; exact hf
                · rw [hES]; exact g4.trans (hmf.base g4.nx)
            · have hbefore : ∀ j, j < i → listed.getD j false = true ∨ ef j = .no := fun j hj => by
                have hoj : ops[j]? = some ops[j] := Array.getElem?_eq_getElem (by omega)
                cases hb : bitOf (masks ops.toList []) i j with
                | true => exact .inl (mask_before hc hi0 hoi j hb)
                | false =>
                  rcases (hpr j i _ oi hj hoj hoi hb).2 with h | h | h
                  · exact absurd h hiF
                  · exact .inr (hpureE j _ hoj h).1
                  · rw [hpi] at h; cases h
              have hafter : ∀ j, i < j → j < ops.size → listed.getD j false = false ∨ ef j = .no := fun j h1 h2 => by
                cases hl : listed.getD j false with
                | false => exact .inl rfl
                | true => exact .inr (hback listed hc i oi hoi hpi hif j h1 h2 (by omega) hl).1
              have hES : ESel ef m0 (fun j => listed.getD j false) ops.size = ESel ef m0 (fun _ => true) i := by
                rw [ESel_eff (sel' := fun j => decide (j < i)) ops.size (fun j hj => by
                  rcases Nat.lt_trichotomy j i with h | h | h
                  · exact (hbefore j h).imp (fun g => by rw [g, decide_eq_true h]) id
                  · exact .inl (by rw [h, hif]; simp)
                  · exact (hafter j h hj).imp (fun g => by rw [g, decide_eq_false (by omega)]) id)]
                rw [ESel_cut (i := i) ops.size (by omega) (fun j h1 h2 => decide_eq_false (by omega))]
                exact ESel_same i fun j hj => decide_eq_true hj
              have hES' : ESel ef m0 (fun j => (listed.setIfInBounds i true).getD j false) ops.size = (ef i).on (ESel ef m0 (fun _ => true) i) := by
                rw [ESel_eff (sel' := fun j => decide (j < i + 1)) ops.size (fun j hj => by
                  rw [hset]
                  rcases Nat.lt_trichotomy j i with h | h | h
                  · rw [if_neg (by omega)]
                    exact (hbefore j h).imp (fun g => by rw [g, decide_eq_true (by omega)]) id
                  · rw [if_pos h]; exact .inl (by rw [decide_eq_true (by omega)])
                  · rw [if_neg (by omega)]
                    exact (hafter j h hj).imp (fun g => by rw [g, decide_eq_false (by omega)]) id)]
                rw [ESel_cut (i := i + 1) ops.size (by omega) (fun j h1 h2 => decide_eq_false (by omega))]
                simp only [ESel]
                rw [if_pos (decide_eq_true (by omega))]
                congr 1
                exact ESel_same i fun j hj => decide_eq_true (by omega)
              rw [show Nat.blt i F = false by
                cases hh : Nat.blt i F with
                | false => rfl
                | true => exact absurd (by simpa [Nat.blt_eq] using hh) hiF] at hstep
              obtain ⟨mo, hs, hmo, _⟩ := stepB_back hstep
              rw [hES] at g1 g3 g4
              refine stepA_ok hE hoi (by rw [stepA_congr hlooks]; exact hs) g1 hGI g3 hbsi' (fun hvi ρ2 w2 x hx hm2 hmv => ?_) rnd fu
              refine cont x w2 ρ2 hvi ?_ ?_ ?_ ?_
              · rw [hES', hmo]
                exact AV.rels.ext hmv.ext hmv.nx _ _ g1
              · rw [hES', hmo]; exact hx
              · rw [hES', hmo]; exact hm2
              · rw [hES', hmo]; exact g4.trans (hmv.base g4.nx)
      have z0 : ∀ i, (Array.replicate ops.size false).getD i false = false := fun i => getD_replicate_false _ i
      have z1 : TS d v tm (fun i => (Array.replicate ops.size false).getD i false) ops.size = tm := by
        have : ∀ n, TS d v tm (fun i => (Array.replicate ops.size false).getD i false) n = tm := by
          intro n
          induction n with
          | zero => rfl
          | succ n ih => simp only [TS]; rw [if_neg (by rw [z0]; exact Bool.false_ne_true), ih]
        exact this _
      have z2 : ESel ef m0 (fun i => (Array.replicate ops.size false).getD i false) ops.size = m0 := by
        have : ∀ n, ESel ef m0 (fun i => (Array.replicate ops.size false).getD i false) n = m0 := by
          intro n
          induction n with
          | zero => rfl
          | succ n ih => simp only [ESel]; rw [if_neg (by rw [z0]; exact Bool.false_ne_true), ih]
        exact this _
      have hd0 := Moves.drew (ρ := ρ) (m := m) (w := w) hB
      refine key ops.size _ _ _ ⟨by simp, fun j oj _ hl => by rw [z0] at hl; cases hl⟩ (by simp) (by rw [z1]; exact fun i t w g u hi => absurd hi (hnogd i t w g u)) (by rw [z1]; exact fun i t w g u hi => absurd hi (hnogd i t w g u)) ⟨ρ, ?_, rfl, ?_, ?_⟩
      · rw [z1, z2]; exact ht.up (by rw [hM0n]; omega)
      · rw [z2]; exact hmr.drew.less (by rw [hM0n]; omega) fun l b hl => by rw [hM0b] at hl; exact hl
      · rw [z2]
        exact ⟨hd0.ext, by rw [hM0n]; omega, hd0.os, hd0.tape, hd0.output, hd0.size, hd0.keep, fun g ⟨l, b, h1, h2, h3⟩ => hd0.fresh g ⟨l, b, by rw [hM0b] at h1; exact h1, h2, h3⟩⟩
    · cases h
/-- In the text's order with effects apart; else with places made at any time. -/
def drawAB (P : Program) (E : Env) (ops : Array Oper) (tm : List AV) (m : MS) : Option (List AV × MS × List Bool) := match drawA P E ops tm m with
  | some r => some r
  | none => match drawB P E ops tm m with
    | some r => some r
    | none => match drawBF P E frontA ops tm m with
      | some r => some r
      | none => match drawBF P E frontB ops tm m with
        | some r => some r
        | none => match drawBF P E frontC ops tm m with
          | some r => some r
          | none => drawS P E ops tm m
theorem drawAB_ok (hE : ESound P E) (hm : MixedOk P) : DSound P (drawAB P E) := by
  intro rid ops tm m tm' m' bs h
  unfold drawAB at h
  cases hA : drawA P E ops tm m with
  | some r => rw [hA] at h; cases h; exact drawA_ok hE hm rid ops tm m tm' m' bs hA
  | none =>
    rw [hA] at h
    dsimp only at h
    cases hB : drawB P E ops tm m with
    | some r => rw [hB] at h; cases h; exact drawBF_ok frontN hE hm rid ops tm m tm' m' bs hB
    | none =>
      rw [hB] at h
      dsimp only at h
      cases hC : drawBF P E frontA ops tm m with
      | some r => rw [hC] at h; cases h; exact drawBF_ok frontA hE hm rid ops tm m tm' m' bs hC
      | none =>
        rw [hC] at h
        dsimp only at h
        cases hD : drawBF P E frontB ops tm m with
        | some r => rw [hD] at h; cases h; exact drawBF_ok frontB hE hm rid ops tm m tm' m' bs hD
        | none =>
          rw [hD] at h
          dsimp only at h
          cases hF : drawBF P E frontC ops tm m with
          | some r => rw [hF] at h; cases h; exact drawBF_ok frontC hE hm rid ops tm m tm' m' bs hF
          | none => rw [hF] at h; exact drawS_ok hE hm rid ops tm m tm' m' bs h
end
end Go.Proofs.Ytmjpikkloofakaa

namespace Go.Proofs.Ytmjpikkloofakaa
open Go Go.RowKit

mutual
def AV.ground : AV → Bool
  | .unk => true
  | .val _ => true
  | .any _ => true
  | .ptr .. => false
  | .sl .. => false
  | .gd _ _ _ v => AV.ground v
  | .clo _ a b => AV.grounds a && AV.grounds b
  | .agg cs => AV.grounds cs
  | .tup cs => AV.grounds cs
  | .yld _ => false
  | .mp _ => false
def AV.grounds : List AV → Bool
  | [] => true
  | a :: r => AV.ground a && AV.grounds r
end
section
variable {ρ ρ' : Rho} {nx nx' : Nat}
mutual
theorem AV.ground_rel : ∀ (a : AV) (x : Value), a.ground = true → AV.rel ρ nx a x → AV.rel ρ' nx' a x
  | .unk, _, _, _ => by simp only [AV.rel]
  | .val v, x, _, hx => by simpa only [AV.rel] using hx
  | .any k, x, _, hx => by simpa only [AV.rel] using hx
  | .ptr l w r c, x, h, hx => by simp [AV.ground] at h
  | .sl nn l w r s n cap, x, h, hx => by simp [AV.ground] at h
  | .gd _ _ g v, x, h, hx => by
    simp only [AV.rel, AV.ground] at hx h ⊢
    exact ⟨fun hg => AV.ground_rel v x h (hx.1 hg), hx.2⟩
  | .clo f fs cs, x, h, hx => by
    simp only [AV.rel, AV.ground, Bool.and_eq_true] at hx h ⊢
    obtain ⟨xs, ys, e, h1, h2⟩ := hx
    exact ⟨xs, ys, e, AV.grounds_rels fs xs h.1 h1, AV.grounds_rels cs ys h.2 h2⟩
  | .agg cs, x, h, hx => by
    simp only [AV.rel, AV.ground] at hx h ⊢
    obtain ⟨xs, e, h1⟩ := hx
    exact ⟨xs, e, AV.grounds_rels cs xs h h1⟩
  | .tup cs, x, h, hx => by
    simp only [AV.rel, AV.ground] at hx h ⊢
    obtain ⟨xs, e, h1⟩ := hx
    exact ⟨xs, e, AV.grounds_rels cs xs h h1⟩
  | .yld l, x, h, hx => by simp [AV.ground] at h
  | .mp l, x, h, hx => by simp [AV.ground] at h
theorem AV.grounds_rels : ∀ (as : List AV) (xs : List Value), AV.grounds as = true → AV.rels ρ nx as xs → AV.rels ρ' nx' as xs
  | [], xs, _, hx => by simpa only [AV.rels] using hx
  | a :: as, xs, h, hx => by
    simp only [AV.rels, AV.grounds, Bool.and_eq_true] at hx h ⊢
    obtain ⟨y, ys, e, h1, h2⟩ := hx
    exact ⟨y, ys, e, AV.ground_rel a y h.1 h1, AV.grounds_rels as ys h.2 h2⟩
end
def Cont.ground : Cont → Bool
  | .cells l => AV.grounds l
  | .col _ => true
  | .rows _ => true
  | .obj (.glob _ _) => true
  | .obj (.loop ..) => false
  | .obj (.typed _ l) => AV.grounds l
  | .obj (.trow ..) => true
  | .obj (.mpo ..) => true
  | .obj (.mit ..) => false
  | .obj (.nest _ fo) => AV.grounds (foAVs fo)
theorem grounds_at : ∀ {l : List AV} {i : Nat} {a : AV}, AV.grounds l = true → l[i]? = some a → a.ground = true
  | [], i, a, _, h => by simp at h
  | b :: l, 0, a, h, hi => by
    simp only [AV.grounds, Bool.and_eq_true] at h
    simp at hi; subst hi; exact h.1
  | b :: l, i + 1, a, h, hi => by
    simp only [AV.grounds, Bool.and_eq_true] at h
    simp at hi; exact grounds_at h.2 hi
theorem Col.at_ground (c : Col) (r : Nat) : (c.at r).1.ground = true := by cases c <;> rfl
theorem Cont.ground_at {k : Cont} {r c : Nat} {a : AV} {b : Bool} (h : k.ground = true) (ha : k.at r c = some (a, b)) : a.ground = true := by
  cases k with
  | cells l =>
    cases c <;> simp only [Cont.at] at ha
    · split at ha
      · rename_i hv; cases ha; exact grounds_at h hv
      · cases ha
    · cases ha
  | col cl =>
    cases c <;> simp only [Cont.at] at ha
    · have := Col.at_ground cl r; cases hh : cl.at r; rw [hh] at this ha; cases ha; exact this
    · cases ha
  | rows cs =>
    simp only [Cont.at] at ha
    split at ha
    · rename_i cl _
      have := Col.at_ground cl r; cases hh : cl.at r; rw [hh] at this ha; cases ha; exact this
    · cases ha
  | obj q => cases q with
    | typed t l =>
      cases c <;> simp only [Cont.at] at ha
      · split at ha
        · rename_i hv; cases ha; exact grounds_at h hv
        · cases ha
      · cases ha
    | glob g c0 => cases c <;> (simp only [Cont.at] at ha; cases ha)
    | loop st pe tm ps asg body => cases c <;> (simp only [Cont.at] at ha; cases ha)
    | trow t s0 => cases c <;> (simp only [Cont.at] at ha; cases ha)
    | mpo fk fv es => cases c <;> (simp only [Cont.at] at ha; cases ha)
    | mit tm n0 seen => cases c <;> (simp only [Cont.at] at ha; cases ha)
    | nest cs0 fo0 =>
      simp only [Cont.at] at ha
      split at ha
      · rename_i hf
        cases ha
        obtain ⟨i, hi⟩ := foAt_get hf
        exact grounds_at h hi
      · cases ha
theorem QObj.ok.ok_ground {q : QObj} {i : LI} {w : World} (h : (Cont.obj q).ground = true) (hq : q.ok ρ nx i w) : q.ok ρ' nx' i w := by
  cases q with
  | glob g vs => exact hq
  | loop st pe tm ps asg body => cases h
  | typed t l => exact hq
  | trow t s => exact hq
  | mpo fk fv es => exact hq
  | mit tm n seen => cases h
  | nest cs fo => exact hq
theorem Cont.rel_ground {k : Cont} {cell : Nat → Option Value} (h : k.ground = true) (hr : k.rel ρ nx cell) : k.rel ρ' nx' cell := fun r c a ha => by
  obtain ⟨h1, x, h2, h3⟩ := hr r c a ha
  exact ⟨h1, x, h2, AV.ground_rel a x (Cont.ground_at h ha) h3⟩
end

def lookF {α : Type} : List (FuncId × α) → FuncId → Option α
  | [], _ => none
  | (f, g) :: r, k => match Nat.beq f k with
    | true => some g
    | false => lookF r k
abbrev Spec := MS → List AV → Res
def envOf (l : List (FuncId × Spec)) : Env := fun f m args => match f with
  | some f => match lookF l f with
    | some g => g m args
    | none => none
  | none => none
section
variable {P : Program}
def SpecOk (P : Program) (f : FuncId) (g : Spec) : Prop := ∀ m args v mo bs, g m args = some (v, mo, bs) → bs.all id = true → FSound P f m args v (mo.getD m)
theorem env_nil : ESound P (envOf []) := ⟨(fun f m args v mo bs h _ => by cases h), (fun m args v mo bs h _ => by cases h)⟩
theorem env_cons {f : FuncId} {g : Spec} {l : List (FuncId × Spec)} (hg : SpecOk P f g) (hl : ESound P (envOf l)) : ESound P (envOf ((f, g) :: l)) := by
 refine ⟨fun k m args v mo bs h hb => ?_, (fun m args v mo bs h _ => by cases h)⟩
 unfold envOf at h
 simp only [lookF] at h
 by_cases e : f = k
 · subst e
   simp only [Nat.beq_refl] at h
   exact hg m args v mo bs h hb
 · rw [nbeq_ne e] at h
   exact hl.fn k m args v mo bs h hb
theorem calls_of {g : FuncId} {fn : Func} {c : Code} {args : List AV} {m m' : MS} {v : AV} (hf : P.funcs[g]? = some fn) (hb : fn.body = some c) (h : Gives_ P fn m.nx (enterA fn c args m) v m')
    {ρ : Rho} {w : World} {xs : List Value} (hm : MRel ρ m w) (hx : AV.rels ρ m.nx args xs) : Calls P g xs.toArray w fun e w' => ∃ ρ' x, e = .returned x ∧ AV.rel ρ' m'.nx v x ∧ MRel ρ' m' w' ∧ Moves m.nx ρ ρ' m m' w w' := by
  intro cs
  let b : Frame := { (default : Frame) with fn := g, kind := .normal, roundOf := none }
  have hent : Frame.enter P g xs.toArray .normal = b.atR { tmps := xs.toArray ++ Array.replicate (fn.ntmps - xs.toArray.size) undef, defers := [] } [.code c] := by
    simp [Frame.enter, Frame.atR, hf, hb, b]
  have hrel : AV.rels ρ m.nx (args ++ List.replicate (fn.ntmps - args.length) .unk) (xs.toArray ++ Array.replicate (fn.ntmps - xs.toArray.size) undef).toList := by
    have e : (xs.toArray ++ Array.replicate (fn.ntmps - xs.toArray.size) undef).toList = xs ++ List.replicate (fn.ntmps - xs.length) undef := by simp
    rw [e]
    refine hx.append ?_
    have := AV.rels.unks (ρ := ρ) (nx := m.nx) (List.replicate (fn.ntmps - xs.length) undef)
    rw [List.length_replicate, ← hx.len] at this
    rw [← hx.len]
    exact this
  obtain ⟨ρ', a', w', todo, x, st, hd, hx1, hx2, hm', mv⟩ := h b cs ρ { tmps := xs.toArray ++ Array.replicate (fn.ntmps - xs.toArray.size) undef, defers := [] } w rfl hrel hm (Nat.le_refl _)
  refine ⟨.returned x, w', { b.atR a' todo with mode := .returning }, ⟨ρ', x, rfl, hx2, hm', mv⟩, ?_, rfl, rfl, hd, rfl, fn, hf, hx1⟩
  rw [hent]
  exact st
def allRo : List (Nat × Option ABlk) → Bool
  | [] => true
  | (_, none) :: r => allRo r
  | (_, some b) :: r => !b.wr && allRo r
theorem allRo_look : ∀ {l : List (Nat × Option ABlk)} {k : Nat} {b : ABlk}, allRo l = true → look l k = some b → b.wr = false
  | [], k, b, _, h => by cases h
  | (l, o) :: r, k, b, ha, h => by
    rw [look_cons] at h
    cases o with
    | none =>
      simp only [allRo] at ha
      split at h
      · cases h
      · exact allRo_look ha h
    | some b' =>
      simp only [allRo, Bool.and_eq_true, Bool.not_eq_true'] at ha
      split at h
      · cases h; exact ha.1
      · exact allRo_look ha.2 h
/-- What was there stays, where nothing may be written. -/
theorem MRel.later {ρ : Rho} {m : MS} {w w' : World} (h : MRel ρ m w) (hs : w.heap.size ≤ w'.heap.size) (hk : ∀ g, g < w.heap.size → w'.heap[g]? = w.heap[g]?) : MRel ρ m w' :=
  ⟨fun l b hl => ⟨(h.blk l b hl).1, by
    have h2 := (h.blk l b hl).2
    rcases h2.lt with hlt | hv
    · exact h2.ext (fun _ _ => rfl) (Nat.le_refl _) hs (hk _ hlt) fun hn' g hg => hk g (h2.tlt hn' g hg)
    · exact ABlk.ok.any hv _⟩, h.apart, h.deep⟩
/-- A call on some names alone, all for reading, whose answer holds no name. -/
theorem lift_pure {f : FuncId} {m m1 m1' : MS} {args args1 : List AV} {v : AV} (h : FSound P f m1 args1 v m1') (hro : allRo m1.bl = true) (hv : v.ground = true)
    (hsim : ∀ (ρ : Rho) (w : World) (xs : List Value), MRel ρ m w → AV.rels ρ m.nx args xs → ∃ ρ1, MRel ρ1 m1 w ∧ AV.rels ρ1 m1.nx args1 xs) : FSound P f m args v m := by
  intro ρ w xs hm hx
  obtain ⟨ρ1, hm1, hx1⟩ := hsim ρ w xs hm hx
  refine Went.mono (h ρ1 w xs hm1 hx1) fun x w' ⟨ρ', hr, _, mv⟩ => ?_
  have hno : ∀ g, ¬ Wr ρ1 m1 g := fun g ⟨l, b, h1, h2, _⟩ => by rw [allRo_look hro h1] at h2; cases h2
  have hk : ∀ g, g < w.heap.size → w'.heap[g]? = w.heap[g]? := fun g hg => mv.keep g hg (hno g)
  exact ⟨ρ, AV.ground_rel _ _ hv hr, hm.later mv.size hk, ⟨fun _ _ => rfl, Nat.le_refl _, mv.os, mv.tape, mv.output, mv.size, fun g hg _ => hk g hg, fun g hg => .inl hg⟩⟩
/-- An entry outside that looks at plain values alone. -/
theorem plain_fn {f : FuncId} {m : MS} {args : List AV} {v : AV} (hv : v.ground = true) (h : ∀ (ρ : Rho) (xs : List Value) (w : World), AV.rels ρ m.nx args xs → ∃ x, (callFunc f xs.toArray).run P w = .ok (.value x) w ∧ AV.rel ρ m.nx v x) : FSound P f m args v m := fun ρ w xs hm hx => by
  obtain ⟨x, h1, h2⟩ := h ρ xs w hx
  exact .inr ⟨x, w, h1, ρ, h2, hm, Moves.refl (Nat.le_refl _)⟩
def noMem : MS := ⟨[], 0⟩
theorem mrel_none {ρ : Rho} {w : World} {n : Nat} : MRel ρ ⟨[], n⟩ w := ⟨(fun l b h => by cases h), (fun l b l' b' h => by cases h), (fun l b l' b' h => by cases h)⟩
/-- The same where no name is handed over. -/
theorem lift_ground {f : FuncId} {m m1' : MS} {args : List AV} {v : AV} (h : FSound P f noMem args v m1') (ha : AV.grounds args = true) (hv : v.ground = true) : FSound P f m args v m :=
  lift_pure h rfl hv fun ρ _ _ _ hx => ⟨ρ, mrel_none, AV.grounds_rels _ _ ha hx⟩
/-- A law that answers true, on arguments that are for reading alone. -/
theorem law_true {g : FuncId} {m m' : MS} {args : List AV} {w : World} {xs : List Value} {ρ : Rho} {fn : Func} {c : Code} (hf : P.funcs[g]? = some fn) (hb : fn.body = some c) (h : Gives_ P fn m.nx (enterA fn c args m) (.val (.bool true)) m') (hro : allRo m.bl = true)
    (hm : MRel ρ m w) (hx : AV.rels ρ m.nx args xs) : Calls P g xs.toArray w fun e w' => e = .returned (.bool true) ∧ Below w.heap.size w w' := by
  refine Calls.mono (calls_of hf hb h hm hx) fun e w' ⟨ρ', x, he, hr, _, mv⟩ => ?_
  have hno : ∀ g, ¬ Wr ρ m g := fun g ⟨l, b, h1, h2, _⟩ => by rw [allRo_look hro h1] at h2; cases h2
  simp only [AV.rel] at hr
  subst hr
  exact ⟨he, ⟨mv.os, mv.tape, mv.output.1, mv.size, fun k hk => mv.keep k hk (hno k)⟩⟩
/-- A whole function: what it hands back. -/
theorem gives_of {E : Env} {D : Array Oper → List AV → MS → Option (List AV × MS × List Bool)} {f : Func} {c : Code} {cuts : List Cut} {ns : List Nat} {top : Nat} {args : List AV} {m m' : MS} {v : AV} {chk : Bool} (hE : ESound P E) (hD : DSound P D) (hC : cutsB m.nx cuts = true) (hb : f.body = some c)
    (h : fun_ P E D f cuts ns top args m = some (.ret v m' chk)) (hc : chk = true) : Gives_ P f m.nx (enterA f c args m) v m' := by
  subst hc
  have e : bodyOf f = c := by unfold bodyOf; rw [hb]
  unfold fun_ at h
  rw [e] at h
  exact from_ret hE hD hC h
theorem goes_of {E : Env} {D : Array Oper → List AV → MS → Option (List AV × MS × List Bool)} {f : Func} {c : Code} {cuts : List Cut} {ns : List Nat} {top : Nat} {args : List AV} {m m' : MS} {todo : List Item} {tm : List AV} {chk : Bool} (hE : ESound P E) (hD : DSound P D) (hC : cutsB m.nx cuts = true) (hb : f.body = some c)
    (h : fun_ P E D f cuts ns top args m = some (.head todo tm m' chk)) (hc : chk = true) : Goes P m.nx (enterA f c args m) ⟨todo, tm, m'⟩ := by
  subst hc
  have e : bodyOf f = c := by unfold bodyOf; rw [hb]
  unfold fun_ at h
  rw [e] at h
  exact from_head hE hD hC h
/-- A name for a slice that came in. -/
theorem MRel.view {ρ : Rho} {m : MS} {w : World} {l : Nat} {b : ABlk} (h : MRel ρ m w) (hl : look m.bl l = some b) (hg : b.cont.ground = true) (ρ1 : Rho) (nx1 : Nat) : (⟨false, false, b.cont⟩ : ABlk).ok ρ1 nx1 (ρ l) w := by
  have h2 := (h.blk l b hl).2
  exact ⟨h2.lt.imp id (fun hv => ⟨rfl, rfl, hv.2.2⟩), Cont.rel_ground hg h2.rel, (fun hw => by cases hw), (fun ho => by cases ho), fun q hq => (h2.obj q hq).ok_ground (by rw [← hq]; exact hg)⟩
theorem mrel_one {ρ : Rho} {w : World} {b : ABlk} (hb : b.ok ρ 1 (ρ 0) w) (hd : b.wr = true → b.cont.nested = true → (ρ 0).tg.testBit (ρ 0).b = false := by intro h1 h2; first | (cases h1; done) | (cases h2; done)) : MRel ρ ⟨[(0, some b)], 1⟩ w := by
  refine ⟨fun l b' hl => ?_, fun l b1 l' b2 h1 h2 _ hne => ?_, fun l b1 l' b2 h1 h2 hw hn => ?_⟩
  · rw [look_cons] at hl
    split at hl
    · rename_i e; subst e; cases hl; exact ⟨Nat.lt_succ_self _, hb⟩
    · cases hl
  · rw [look_cons] at h1 h2
    split at h1
    · rename_i e; subst e
      rw [if_neg (Ne.symm hne)] at h2
      cases h2
    · cases h1
  · rw [look_cons] at h1 h2
    split at h1
    · rename_i e; subst e; cases h1
      split at h2
      · rename_i e; subst e; cases h2; exact hd hw hn
      · cases h2
    · cases h1
theorem mrel_two {ρ : Rho} {w : World} {b b' : ABlk} (hb : b.ok ρ 2 (ρ 0) w) (hb' : b'.ok ρ 2 (ρ 1) w) (h0 : b.wr = false) (h1 : b'.wr = false) : MRel ρ ⟨[(0, some b), (1, some b')], 2⟩ w := by
  have key : ∀ l x, look [(0, some b), (1, some b')] l = some x → (l = 0 ∧ x = b) ∨ (l = 1 ∧ x = b') := fun l x hl => by
    rw [look_cons] at hl
    split at hl
    · rename_i e; cases hl; exact .inl ⟨e.symm, rfl⟩
    · rw [look_cons] at hl
      split at hl
      · rename_i e; cases hl; exact .inr ⟨e.symm, rfl⟩
      · cases hl
  refine ⟨fun l x hl => ?_, fun l x l' y hx _ hw _ => ?_, fun l x l' y hx _ hw _ => ?_⟩
  · rcases key l x hl with ⟨rfl, rfl⟩ | ⟨rfl, rfl⟩
    · exact ⟨by show (0 : Nat) < 2; omega, hb⟩
    · exact ⟨by show (1 : Nat) < 2; omega, hb'⟩
  · rcases key l x hx with ⟨rfl, rfl⟩ | ⟨rfl, rfl⟩
    · rw [h0] at hw; cases hw
    · rw [h1] at hw; cases hw
  · rcases key l x hx with ⟨rfl, rfl⟩ | ⟨rfl, rfl⟩
    · rw [h0] at hw; cases hw
    · rw [h1] at hw; cases hw
/-- A loop whose every round goes on, up to one that ends it. -/
theorem Goes.iter {B : Nat} (S : Nat → St) (n : Nat) (h : ∀ k, k < n → Goes P B (S k) (S (k + 1))) : ∀ k, k ≤ n → Goes P B (S k) (S n) := fun k hk => by
  have : ∀ j k, k + j = n → Goes P B (S k) (S n) := by
    intro j
    induction j with
    | zero => intro k hk; have : k = n := by omega
              subst this; exact Goes.refl
    | succ j ih => intro k hk; exact (h k (by omega)).trans (ih (k + 1) (by omega))
  exact this (n - k) k (by omega)
end
abbrev vi (z : Int) : AV := .val (.int .i64 z)
abbrev vu (z : Int) : AV := .val (.int .u64 z)
abbrev vc (z : Int) : AV := .val (.int .u8 z)
abbrev vb (z : Bool) : AV := .val (.bool z)
abbrev vs (z : ByteArray) : AV := .val (.string z)
/-- A whole function, over what is said of those that it calls. -/
def F_ (P : Program) (l : List (FuncId × Spec)) (f : Func) (cuts : List Cut) (ns : List Nat) (top : Nat) (args : List AV) (m : MS) : Option Fin_ := fun_ P (envOf l) (drawAB P (envOf l)) f cuts ns top args m
/-- The same from a loop's head on. -/
def H_ (P : Program) (l : List (FuncId × Spec)) (f : Func) (cuts : List Cut) (ns : List Nat) (top : Nat) (todo : List Item) (tm : List AV) (m : MS) : Option Fin_ := from_ P (envOf l) (drawAB P (envOf l)) f cuts ns top todo tm m
section
variable {P : Program}
theorem F_ret {l : List (FuncId × Spec)} {f : Func} {c : Code} {cuts : List Cut} {ns : List Nat} {top : Nat} {args : List AV} {m m' : MS} {v : AV} (hE : ESound P (envOf l)) (hm : MixedOk P) (hC : cutsB m.nx cuts = true) (hb : f.body = some c)
    (h : F_ P l f cuts ns top args m = some (.ret v m' true)) : Gives_ P f m.nx (enterA f c args m) v m' := gives_of hE (drawAB_ok hE hm) hC hb h rfl
theorem F_head {l : List (FuncId × Spec)} {f : Func} {c : Code} {cuts : List Cut} {ns : List Nat} {top : Nat} {args : List AV} {m m' : MS} {todo : List Item} {tm : List AV} (hE : ESound P (envOf l)) (hm : MixedOk P) (hC : cutsB m.nx cuts = true) (hb : f.body = some c)
    (h : F_ P l f cuts ns top args m = some (.head todo tm m' true)) : Goes P m.nx (enterA f c args m) ⟨todo, tm, m'⟩ := goes_of hE (drawAB_ok hE hm) hC hb h rfl
theorem H_ret {l : List (FuncId × Spec)} {f : Func} {cuts : List Cut} {ns : List Nat} {top : Nat} {todo : List Item} {tm : List AV} {m m' : MS} {v : AV} {B : Nat} (hE : ESound P (envOf l)) (hm : MixedOk P) (hC : cutsB B cuts = true)
    (h : H_ P l f cuts ns top todo tm m = some (.ret v m' true)) : Gives_ P f B ⟨todo, tm, m⟩ v m' := from_ret hE (drawAB_ok hE hm) hC h
theorem H_head {l : List (FuncId × Spec)} {f : Func} {cuts : List Cut} {ns : List Nat} {top : Nat} {todo todo' : List Item} {tm tm' : List AV} {m m' : MS} {B : Nat} (hE : ESound P (envOf l)) (hm : MixedOk P) (hC : cutsB B cuts = true)
    (h : H_ P l f cuts ns top todo tm m = some (.head todo' tm' m' true)) : Goes P B ⟨todo, tm, m⟩ ⟨todo', tm', m'⟩ := from_head hE (drawAB_ok hE hm) hC h
/-- A function of plain values, from what its text hands back. -/
theorem pure_fn {l : List (FuncId × Spec)} {f g : FuncId} {fn : Func} {c : Code} {args : List AV} {m m' : MS} {v : AV} {cuts : List Cut} {ns : List Nat} {top : Nat} (hE : ESound P (envOf l)) (hm : MixedOk P) (hc : ∀ xs w, (callFunc f xs).run P w = .ok (.enter g xs) w) (hf : P.funcs[g]? = some fn) (hb : fn.body = some c)
    (h : F_ P l fn cuts ns top args noMem = some (.ret v m' true)) (ha : AV.grounds args = true) (hv : v.ground = true) (hC : cutsB 0 cuts = true := by rfl) : FSound P f m args v m :=
  lift_ground (fsound hc hf hb (F_ret hE hm hC hb h)) ha hv
end
end Go.Proofs.Ytmjpikkloofakaa

namespace Go.Proofs.Ytmjpikkloofakaa
open Go Go.RowKit

/-- By which name a block goes now: pairs (new, old). -/
def newOf : List (Nat × Nat) → Nat → Option Nat
  | [], _ => none
  | (a, b) :: r, l => match Nat.beq b l with
    | true => some a
    | false => newOf r l
def oldOf : List (Nat × Nat) → Nat → Option Nat
  | [], _ => none
  | (a, b) :: r, l => match Nat.beq a l with
    | true => some b
    | false => oldOf r l
mutual
def AV.ren (σ : List (Nat × Nat)) : AV → AV
  | .unk => .unk
  | .val v => .val v
  | .any k => .any k
  | .ptr l w r c => match newOf σ l with
    | some l' => .ptr l' w r c
    | none => .unk
  | .sl nn l w r s n cap => match newOf σ l with
    | some l' => .sl nn l' w r s n cap
    | none => .unk
  | .gd t wt g v => .gd t wt g (AV.ren σ v)
  | .clo f a b => .clo f (AV.rens σ a) (AV.rens σ b)
  | .agg cs => .agg (AV.rens σ cs)
  | .tup cs => .tup (AV.rens σ cs)
  | .yld l => match newOf σ l with
    | some l' => .yld l'
    | none => .unk
  | .mp l => match newOf σ l with
    | some l' => .mp l'
    | none => .unk
def AV.rens (σ : List (Nat × Nat)) : List AV → List AV
  | [] => []
  | a :: r => AV.ren σ a :: AV.rens σ r
end
def renF (σ : List (Nat × Nat)) : List (Nat × Nat × AV) → List (Nat × Nat × AV)
  | [] => []
  | (c, r, a) :: l => (c, r, AV.ren σ a) :: renF σ l
def Cont.ren (σ : List (Nat × Nat)) : Cont → Cont
  | .cells l => .cells (AV.rens σ l)
  | .col c => .col c
  | .rows cs => .rows cs
  | .obj q => .obj (match q with
    | .glob g vs => .glob g vs
    | .loop st pe tm ps asg body => .loop st pe (AV.rens σ tm) ps asg body
    | .typed t l => .typed t (AV.rens σ l)
    | .trow t s => .trow t s
    | .mpo fk fv es => .mpo fk fv es
    | .mit tm n seen => .mit (AV.rens σ tm) n seen
    | .nest cs fo => .nest cs (renF σ fo))
def renB (σ : List (Nat × Nat)) (bl : List (Nat × Option ABlk)) : List (Nat × Nat) → List (Nat × Option ABlk)
  | [] => []
  | (a, b) :: r => match look bl b with
    | some ⟨wr, op, k⟩ => (a, some ⟨wr, op, k.ren σ⟩) :: renB σ bl r
    | none => (a, none) :: renB σ bl r
def memB (l : Nat) : List Nat → Bool
  | [] => false
  | a :: r => match Nat.beq a l with
    | true => true
    | false => memB l r
def distB : List Nat → Bool
  | [] => true
  | a :: r => !memB a r && distB r
def renOk (B nx : Nat) (σ : List (Nat × Nat)) : Bool := Nat.ble B nx && (distB (σ.map (·.1)) && (distB (σ.map (·.2)) && σ.all fun p => Nat.blt p.1 nx && (Nat.ble B p.1 || Nat.beq p.1 p.2)))
def renSt (σ : List (Nat × Nat)) (nx : Nat) (s : St) : St := ⟨s.todo, AV.rens σ s.tm, ⟨renB σ s.m.bl σ, nx⟩⟩
theorem memB_mem {l : Nat} : ∀ {r : List Nat}, l ∈ r → memB l r = true
  | [], h => by simp at h
  | a :: r, h => by
    simp only [memB]
    rcases List.mem_cons.1 h with rfl | h
    · simp
    · split
      · rfl
      · exact memB_mem h
theorem newOf_mem : ∀ {σ : List (Nat × Nat)} {l l' : Nat}, newOf σ l = some l' → (l', l) ∈ σ
  | [], l, l', h => by cases h
  | (a, b) :: r, l, l', h => by
    simp only [newOf] at h
    split at h
    · rename_i e
      cases h
      rw [Nat.eq_of_beq_eq_true e]
      exact List.mem_cons_self
    · exact List.mem_cons_of_mem _ (newOf_mem h)
theorem oldOf_mem : ∀ {σ : List (Nat × Nat)} {l l' : Nat}, oldOf σ l = some l' → (l, l') ∈ σ
  | [], l, l', h => by cases h
  | (a, b) :: r, l, l', h => by
    simp only [oldOf] at h
    split at h
    · rename_i e
      cases h
      rw [Nat.eq_of_beq_eq_true e]
      exact List.mem_cons_self
    · exact List.mem_cons_of_mem _ (oldOf_mem h)
theorem oldOf_of : ∀ {σ : List (Nat × Nat)} {a b : Nat}, distB (σ.map (·.1)) = true → (a, b) ∈ σ → oldOf σ a = some b
  | [], a, b, _, h => by simp at h
  | (a', b') :: r, a, b, hd, h => by
    simp only [List.map_cons, distB, Bool.and_eq_true, Bool.not_eq_true'] at hd
    simp only [oldOf]
    rcases List.mem_cons.1 h with e | h
    · cases e; simp
    · have : a' ≠ a := fun e => by
        subst e
        have := memB_mem (l := a') (r := r.map (·.1)) (List.mem_map.2 ⟨_, h, rfl⟩)
        rw [this] at hd
        exact absurd hd.1 (by decide)
      rw [nbeq_ne this]
      exact oldOf_of hd.2 h
theorem dist_old : ∀ {σ : List (Nat × Nat)} {a a' b : Nat}, distB (σ.map (·.2)) = true → (a, b) ∈ σ → (a', b) ∈ σ → a = a'
  | [], a, a', b, _, h, _ => by simp at h
  | (x, y) :: r, a, a', b, hd, h, h' => by
    simp only [List.map_cons, distB, Bool.and_eq_true, Bool.not_eq_true'] at hd
    rcases List.mem_cons.1 h with e | h
    · rcases List.mem_cons.1 h' with e' | h'
      · cases e; cases e'; rfl
      · cases e
        have := memB_mem (l := y) (r := r.map (·.2)) (List.mem_map.2 ⟨_, h', rfl⟩)
        rw [this] at hd
        exact absurd hd.1 (by decide)
    · rcases List.mem_cons.1 h' with e' | h'
      · cases e'
        have := memB_mem (l := y) (r := r.map (·.2)) (List.mem_map.2 ⟨_, h, rfl⟩)
        rw [this] at hd
        exact absurd hd.1 (by decide)
      · exact dist_old hd.2 h h'
section
variable {P : Program} {ρ ρ' : Rho} {nx nx' : Nat} {σ : List (Nat × Nat)}
mutual
theorem AV.ren_rel (h : ∀ l l', newOf σ l = some l' → ρ' l' = ρ l ∧ l' < nx') : ∀ (a : AV) (x : Value), AV.rel ρ nx a x → AV.rel ρ' nx' (AV.ren σ a) x
  | .unk, _, _ => by simp only [AV.ren, AV.rel]
  | .val v, x, hx => by simpa only [AV.ren, AV.rel] using hx
  | .any k, x, hx => by simpa only [AV.ren, AV.rel] using hx
  | .ptr l w r c, x, hx => by
    simp only [AV.ren]
    split
    · rename_i l' hl
      simp only [AV.rel] at hx ⊢
      rw [(h l l' hl).1]
      exact ⟨(h l l' hl).2, hx.2⟩
    · simp only [AV.rel]
  | .sl nn l w r s n cap, x, hx => by
    simp only [AV.ren]
    split
    · rename_i l' hl
      simp only [AV.rel] at hx ⊢
      rw [(h l l' hl).1]
      exact ⟨(h l l' hl).2, hx.2⟩
    · simp only [AV.rel]
  | .gd _ _ g v, x, hx => by
    simp only [AV.ren, AV.rel] at hx ⊢
    exact ⟨fun hg => AV.ren_rel h v x (hx.1 hg), hx.2⟩
  | .clo f fs cs, x, hx => by
    simp only [AV.ren, AV.rel] at hx ⊢
    obtain ⟨xs, ys, e, h1, h2⟩ := hx
    exact ⟨xs, ys, e, AV.rens_rels h fs xs h1, AV.rens_rels h cs ys h2⟩
  | .agg cs, x, hx => by
    simp only [AV.ren, AV.rel] at hx ⊢
    obtain ⟨xs, e, h1⟩ := hx
    exact ⟨xs, e, AV.rens_rels h cs xs h1⟩
  | .tup cs, x, hx => by
    simp only [AV.ren, AV.rel] at hx ⊢
    obtain ⟨xs, e, h1⟩ := hx
    exact ⟨xs, e, AV.rens_rels h cs xs h1⟩
  | .yld l, x, hx => by
    simp only [AV.ren]
    split
    · rename_i l' hl
      simp only [AV.rel] at hx ⊢
      rw [(h l l' hl).1]
      exact ⟨(h l l' hl).2, hx.2⟩
    · simp only [AV.rel]
  | .mp l, x, hx => by
    simp only [AV.ren]
    split
    · rename_i l' hl
      simp only [AV.rel] at hx ⊢
      rw [(h l l' hl).1]
      exact ⟨(h l l' hl).2, hx.2⟩
    · simp only [AV.rel]
theorem AV.rens_rels (h : ∀ l l', newOf σ l = some l' → ρ' l' = ρ l ∧ l' < nx') : ∀ (as : List AV) (xs : List Value), AV.rels ρ nx as xs → AV.rels ρ' nx' (AV.rens σ as) xs
  | [], xs, hx => by simpa only [AV.rens, AV.rels] using hx
  | a :: as, xs, hx => by
    simp only [AV.rens, AV.rels] at hx ⊢
    obtain ⟨y, ys, e, h1, h2⟩ := hx
    exact ⟨y, ys, e, AV.ren_rel h a y h1, AV.rens_rels h as ys h2⟩
end
theorem rens_get : ∀ {l : List AV} {i : Nat} {a : AV}, (AV.rens σ l)[i]? = some a → ∃ b, l[i]? = some b ∧ a = AV.ren σ b
  | [], i, a, h => by simp [AV.rens] at h
  | b :: l, 0, a, h => by simp [AV.rens] at h; exact ⟨b, rfl, h.symm⟩
  | b :: l, i + 1, a, h => by simp [AV.rens] at h; obtain ⟨c, h1, h2⟩ := rens_get h; exact ⟨c, by simpa using h1, h2⟩
theorem rens_len : ∀ (l : List AV), (AV.rens σ l).length = l.length
  | [] => rfl
  | a :: l => by simp only [AV.rens, List.length_cons]; rw [rens_len l]
theorem Cont.ren_nested {σ : List (Nat × Nat)} (k : Cont) : (Cont.ren σ k).nested = k.nested := by
  cases k with
  | obj q =>
    cases q with
    | nest cs fo => rfl
    | _ => rfl
  | _ => rfl
theorem Cont.ren_width (k : Cont) : (k.ren σ).width = k.width := by
  cases k with
  | obj q => cases q <;> rfl
  | _ => rfl
theorem renF_at : ∀ {fo : List (Nat × Nat × AV)} {c r : Nat} {a : AV}, foAt (renF σ fo) c = some (r, a) → ∃ a0, foAt fo c = some (r, a0) ∧ a = AV.ren σ a0
  | [], c, r, a, h => by cases h
  | (c0, r0, a0) :: l, c, r, a, h => by
    simp only [renF, foAt] at h ⊢
    split at h
    · cases h; exact ⟨a0, rfl, rfl⟩
    · exact renF_at h
theorem renF_avs : ∀ (fo : List (Nat × Nat × AV)), foAVs (renF σ fo) = AV.rens σ (foAVs fo)
  | [] => rfl
  | (c, r, a) :: l => by simp only [renF, foAVs, AV.rens]; rw [renF_avs l]
theorem Cont.ren_at {k : Cont} {r c : Nat} {a : AV} {b : Bool} (h : (k.ren σ).at r c = some (a, b)) : ∃ a0, k.at r c = some (a0, b) ∧ a = AV.ren σ a0 := by
  have hcol : ∀ (cl : Col) (r : Nat) (a : AV) (b : Bool), cl.at r = (a, b) → a = AV.ren σ a := fun cl r a b h => by
    cases cl <;> simp only [Col.at, Prod.mk.injEq] at h <;> obtain ⟨rfl, _⟩ := h <;> simp only [AV.ren]
  cases k with
  | cells l =>
    cases c <;> simp only [Cont.ren, Cont.at] at h ⊢
    · split at h
      · rename_i v hv
        cases h
        obtain ⟨b0, h1, h2⟩ := rens_get hv
        exact ⟨b0, by rw [h1], h2⟩
      · cases h
    · cases h
  | col cl =>
    cases c <;> simp only [Cont.ren, Cont.at] at h ⊢
    · exact ⟨a, h, hcol cl r a b (Option.some.inj h)⟩
    · cases h
  | rows cs =>
    simp only [Cont.ren, Cont.at] at h ⊢
    split at h
    · rename_i cl hcl
      exact ⟨a, h, hcol cl r a b (Option.some.inj h)⟩
    · cases h
  | obj q => cases q with
    | typed t l =>
      cases c <;> simp only [Cont.ren, Cont.at] at h ⊢
      · split at h
        · rename_i v hv
          cases h
          obtain ⟨b0, h1, h2⟩ := rens_get hv
          exact ⟨b0, by rw [h1], h2⟩
        · cases h
      · cases h
    | glob g c0 => cases c <;> (simp only [Cont.ren, Cont.at] at h; cases h)
    | loop st pe tm ps asg body => cases c <;> (simp only [Cont.ren, Cont.at] at h; cases h)
    | trow t s0 => cases c <;> (simp only [Cont.ren, Cont.at] at h; cases h)
    | mpo fk fv es => cases c <;> (simp only [Cont.ren, Cont.at] at h; cases h)
    | mit tm n0 seen => cases c <;> (simp only [Cont.ren, Cont.at] at h; cases h)
    | nest cs0 fo0 =>
      simp only [Cont.ren, Cont.at] at h ⊢
      split at h
      · rename_i hf
        cases h
        obtain ⟨b0, h1, h2⟩ := renF_at hf
        exact ⟨b0, by rw [h1], h2⟩
      · cases h
theorem Cont.ren_obj {k : Cont} (h : ∀ q, k = .obj q → q.hollow = true) (q : QObj) (hq : k.ren σ = .obj q) : q.hollow = true := by
  cases k with
  | obj q0 =>
    have := h q0 rfl
    cases q0 with
    | nest cs fo => simp only [Cont.ren] at hq; cases hq; exact this
    | _ => cases this
  | _ => simp only [Cont.ren] at hq; cases hq
theorem QObj.ok.ren {k : Cont} {i : LI} {w : World} (h : ∀ l l', newOf σ l = some l' → ρ' l' = ρ l ∧ l' < nx') (hk : ∀ q, k = .obj q → q.ok ρ nx i w) (q : QObj) (hq : k.ren σ = .obj q) : q.ok ρ' nx' i w := by
  cases k with
  | cells l => cases hq
  | col l => cases hq
  | rows l => cases hq
  | obj q0 =>
    have h0 := hk q0 rfl
    cases q0 with
    | glob g vs => cases hq; exact h0
    | loop st pe tm ps asg body =>
      cases hq
      obtain ⟨l, h1, h2, h3, h4, h5⟩ := h0
      exact ⟨l, h1, h2, h3, AV.rens_rels h _ _ h4, h5⟩
    | typed t l => cases hq; exact ⟨h0.1, by rw [rens_len]; exact h0.2⟩
    | trow t s => cases hq; exact h0
    | mpo fk fv es => cases hq; exact h0
    | mit tm n0 seen =>
      cases hq
      obtain ⟨g0, bm, g1, g2⟩ := h0
      exact ⟨g0, bm, g1, AV.rens_rels h _ _ g2⟩
    | nest cs fo => cases hq; exact h0
theorem renB_look {bl : List (Nat × Option ABlk)} : ∀ {τ : List (Nat × Nat)} {l : Nat} {b : ABlk}, look (renB σ bl τ) l = some b → ∃ l0 b0, (l, l0) ∈ τ ∧ look bl l0 = some b0 ∧ b = ⟨b0.wr, b0.op, b0.cont.ren σ⟩
  | [], l, b, h => by cases h
  | (x, y) :: r, l, b, h => by
    simp only [renB] at h
    split at h
    · rename_i wr op k hk
      rw [look_cons] at h
      split at h
      · rename_i e
        subst e
        cases h
        exact ⟨y, _, List.mem_cons_self, hk, rfl⟩
      · obtain ⟨l0, b0, h1, h2⟩ := renB_look h
        exact ⟨l0, b0, List.mem_cons_of_mem _ h1, h2⟩
    · rw [look_cons] at h
      split at h
      · cases h
      · obtain ⟨l0, b0, h1, h2⟩ := renB_look h
        exact ⟨l0, b0, List.mem_cons_of_mem _ h1, h2⟩
theorem Goes.ren {B : Nat} {s : St} (hσ : renOk B nx σ = true) : Goes P B s (renSt σ nx s) := fun b cs ρ a w ht hm hB => by
  simp only [renOk, Bool.and_eq_true] at hσ
  obtain ⟨h1, h2, h3, h4⟩ := hσ
  have hall : ∀ p ∈ σ, p.1 < nx ∧ (B ≤ p.1 ∨ p.1 = p.2) := fun p hp => by
    have := List.all_eq_true.1 h4 p hp
    simp only [Bool.and_eq_true, Bool.or_eq_true] at this
    refine ⟨by simpa [Nat.blt_eq] using this.1, this.2.imp (fun h => Nat.le_of_ble_eq_true h) (fun h => Nat.eq_of_beq_eq_true h)⟩
  let ρ' : Rho := fun l => match oldOf σ l with
    | some l0 => ρ l0
    | none => ρ l
  have hnew : ∀ l l', newOf σ l = some l' → ρ' l' = ρ l ∧ l' < nx := fun l l' h => by
    have hm := newOf_mem h
    refine ⟨?_, (hall _ hm).1⟩
    simp only [ρ', oldOf_of h2 hm]
  have hmem : ∀ l l0, (l, l0) ∈ σ → ρ' l = ρ l0 := fun l l0 h => by simp only [ρ', oldOf_of h2 h]
  refine ⟨ρ', a, w, Steps.refl _ _, AV.rens_rels hnew _ _ ht, rfl, ⟨fun l b' hl => ?_, fun l b1 l' b2 e1 e2 hw hne hnv => ?_, fun l b1 l' b2 e1 e2 hw hn2 => ?_⟩, ⟨fun l hl => ?_, Nat.le_of_ble_eq_true h1, rfl, rfl, ⟨rfl, Nat.le_refl _⟩, Nat.le_refl _, fun _ _ _ => rfl, fun g ⟨l, b', e1, e2, e3⟩ => .inl ?_⟩⟩
  · obtain ⟨l0, b0, g1, g2, rfl⟩ := renB_look hl
    refine ⟨(hall _ g1).1, ?_⟩
    rw [hmem l l0 g1]
    obtain ⟨_, hok⟩ := hm.blk l0 b0 g2
    refine ⟨hok.lt.imp id fun hv => ⟨hv.1, hv.2.1, Cont.ren_obj hv.2.2.1, fun r c a' ha => ?_⟩, fun r c a' ha => ?_, hok.free, hok.room, QObj.ok.ren hnew hok.obj⟩
    · obtain ⟨a0, e1, _⟩ := Cont.ren_at ha
      exact hv.2.2.2 r c a0 e1
    · obtain ⟨a0, e1, rfl⟩ := Cont.ren_at ha
      obtain ⟨x1, x, x2, x3⟩ := hok.rel r c a0 e1
      exact ⟨by rw [Cont.ren_width]; exact x1, x, by rw [Cont.ren_width]; exact x2, AV.ren_rel hnew _ _ x3⟩
  · obtain ⟨l0, b0, g1, g2, rfl⟩ := renB_look e1
    obtain ⟨l0', b0', g1', g2', rfl⟩ := renB_look e2
    rw [hmem l l0 g1, hmem l' l0' g1']
    refine hm.apart l0 b0 l0' b0' g2 g2' hw (fun e => hne ?_) (fun hv => hnv ⟨hv.1, hv.2.1, Cont.ren_obj hv.2.2.1, fun r c a' ha => ?_⟩)
    · subst e
      exact dist_old h3 g1' g1
    · obtain ⟨a0, e1, _⟩ := Cont.ren_at ha
      exact hv.2.2.2 r c a0 e1
  · obtain ⟨l0, b0, g1, g2, rfl⟩ := renB_look e1
    obtain ⟨l0', b0', g1', g2', rfl⟩ := renB_look e2
    rw [hmem l l0 g1, hmem l' l0' g1']
    exact hm.deep l0 b0 l0' b0' g2 g2' hw (by rw [← Cont.ren_nested]; exact hn2)
  · simp only [ρ']
    split
    · rename_i l0 h0
      rcases (hall _ (oldOf_mem h0)).2 with h | h
      · simp only at h; omega
      · simp only at h; rw [h]
    · rfl
  · obtain ⟨l0, b0, g1, g2, rfl⟩ := renB_look e1
    exact ⟨l0, b0, g2, e2, by rw [← hmem l l0 g1]; exact e3⟩
/-- A single slice of a column gets a name. -/
theorem Goes.focus {B : Nat} {todo : List Item} {tm : List AV} {m : MS} (l c j : Nat) {wr op : Bool} {cs : List NCol} {fo : List (Nat × Nat × AV)} {nc : NCol} (hl : look m.bl l = some ⟨wr, op, .obj (.nest cs fo)⟩) (hc : cs[c]? = some nc) (hj : j < nc.len) :
    Goes P B ⟨todo, tm, m⟩ ⟨todo, tm, ⟨(m.nx, some ⟨false, false, (nc.at j).2⟩) :: upd m.bl l (some ⟨wr, op, .obj (.nest cs ((c, j, .sl false m.nx nc.wide 0 1 (nc.at j).1 none) :: fo))⟩), m.nx + 1⟩⟩ := fun b cs' ρ a w ht hm hB => by
  obtain ⟨ρ', h1, h2, h3⟩ := hm.focus hl hc hj
  exact ⟨ρ', a, w, Steps.refl _ _, AV.rels.ext h2 (Nat.le_succ _) _ _ ht, rfl, h1, ⟨fun k hk => h2 k (Nat.lt_of_lt_of_le hk hB), Nat.le_succ_of_le hB, rfl, rfl, ⟨rfl, Nat.le_refl _⟩, Nat.le_refl _, fun _ _ _ => rfl, fun g hg => .inl (h3 g hg)⟩⟩
end
end Go.Proofs.Ytmjpikkloofakaa

namespace Go.Proofs.Ytmjpikkloofakaa
open Go Go.RowKit
section
variable {P : Program}
theorem noWr {ρ : Rho} {n g : Nat} : ¬ Wr ρ ⟨[], n⟩ g := fun ⟨l, b, h, _⟩ => by cases h
theorem lift_fresh {f : FuncId} {m : MS} {args : List AV} {k top wd s n : Nat} {nn : Bool} {cap : Option Nat} {b : ABlk} (h : FSound P f noMem args (.sl nn k wd 0 s n cap) ⟨[(k, some b)], top⟩) (ha : AV.grounds args = true) (hg : b.cont.ground = true) (hw : b.wr = true) (hfl : b.cont.nested = false := by rfl) :
    FSound P f m args (.sl nn m.nx wd 0 s n cap) (m.new b) := by
  intro ρ w xs hm hx
  refine Went.mono (h ρ w xs mrel_none (AV.grounds_rels _ _ ha hx)) fun x w' ⟨ρ1, hr, hm1, mv⟩ => ?_
  have hlk : look [(k, some b)] k = some b := by rw [look_cons, if_pos rfl]
  obtain ⟨hk, hb⟩ := hm1.blk k b hlk
  have hfr : w.heap.size ≤ (ρ1 k).b := (mv.fresh (ρ1 k).b ⟨k, b, hlk, hw, rfl⟩).resolve_left noWr
  have hext : ∀ l, l < m.nx → (ρ.new m.nx (ρ1 k)) l = ρ l := fun l hl => by unfold Rho.new; rw [if_neg (by omega)]
  have hself : (ρ.new m.nx (ρ1 k)) m.nx = ρ1 k := by simp [Rho.new]
  have key : ∀ l b', look ((m.nx, some b) :: m.bl) l = some b' → (l = m.nx ∧ b' = b) ∨ (l < m.nx ∧ look m.bl l = some b') := fun l b' hl => by
    rw [look_cons] at hl
    split at hl
    · rename_i e; cases hl; exact .inl ⟨e.symm, rfl⟩
    · exact .inr ⟨(hm.blk l b' hl).1, hl⟩
  have hkeep : ∀ g, g < w.heap.size → w'.heap[g]? = w.heap[g]? := fun g hg => mv.keep g hg noWr
  refine ⟨ρ.new m.nx (ρ1 k), ?_, ⟨fun l b' hl => ?_, fun l b1 l' b2 h1 h2 hw1 hne hnv => ?_, fun l b1 l' b2 h1 h2 hw1 hn2 => ?_⟩, ⟨hext, Nat.le_succ _, mv.os, mv.tape, mv.output, mv.size, fun g hg _ => hkeep g hg, fun g ⟨l, b', h1, h2, h3⟩ => ?_⟩⟩
  · simp only [AV.rel] at hr ⊢
    rw [hself]
    exact ⟨Nat.lt_succ_self _, hr.2⟩
  · rcases key l b' hl with ⟨rfl, rfl⟩ | ⟨hlt, hl⟩
    · refine ⟨Nat.lt_succ_self _, ?_⟩
      rw [hself]
      exact ⟨hb.lt, Cont.rel_ground hg hb.rel, hb.free, hb.room, fun q hq => (hb.obj q hq).ok_ground (by rw [← hq]; exact hg)⟩
    · refine ⟨Nat.lt_succ_of_lt hlt, ?_⟩
      rw [hext l hlt]
      have h2 := (hm.blk l b' hl).2
      rcases h2.lt with hlt' | hv
      · exact h2.ext hext (Nat.le_succ _) mv.size (hkeep _ hlt') fun hn' g hg => hkeep g (h2.tlt hn' g hg)
      · exact ABlk.ok.any hv _
  · rcases key l b1 h1 with ⟨rfl, rfl⟩ | ⟨hlt, hl⟩
    · rcases key l' b2 h2 with ⟨rfl, _⟩ | ⟨hlt', hl'⟩
      · exact absurd rfl hne
      · rw [hself, hext l' hlt']
        have := (hm.blk l' b2 hl').2.lt.resolve_right hnv
        omega
    · have := (hm.blk l b1 hl).2.lt.resolve_right (wr_not_void hw1)
      rcases key l' b2 h2 with ⟨rfl, rfl⟩ | ⟨hlt', hl'⟩
      · rw [hself, hext l hlt]
        omega
      · rw [hext l hlt, hext l' hlt']
        exact hm.apart l b1 l' b2 hl hl' hw1 hne hnv
  · rcases key l' b2 h2 with ⟨rfl, rfl⟩ | ⟨hlt', hl'⟩
    · rw [hfl] at hn2; cases hn2
    · rw [hext l' hlt']
      have g2 := (hm.blk l' b2 hl').2
      rcases key l b1 h1 with ⟨rfl, rfl⟩ | ⟨hlt, hl⟩
      · rw [hself]
        cases hbt : (ρ l').tg.testBit (ρ1 k).b with
        | false => rfl
        | true => have := g2.tlt hn2 _ hbt; omega
      · rw [hext l hlt]
        exact hm.deep l b1 l' b2 hl hl' hw1 hn2
  · rcases key l b' h1 with ⟨rfl, rfl⟩ | ⟨hlt, hl⟩
    · rw [hself] at h3
      exact .inr (by omega)
    · rw [hext l hlt] at h3
      exact .inl ⟨l, b', hl, h2, h3⟩
end
end Go.Proofs.Ytmjpikkloofakaa

namespace Go.Proofs.Ytmjpikkloofakaa
open Go Go.RowKit
section
variable {P : Program}
theorem AV.rels.split {ρ : Rho} {nx : Nat} : ∀ {as bs : List AV} {xs : List Value}, AV.rels ρ nx (as ++ bs) xs → ∃ ys zs, xs = ys ++ zs ∧ AV.rels ρ nx as ys ∧ AV.rels ρ nx bs zs
  | [], _, xs, h => ⟨[], xs, rfl, by simp [AV.rels], h⟩
  | a :: as, bs, xs, h => by
    simp only [List.cons_append, AV.rels] at h
    obtain ⟨x, xs', rfl, h1, h2⟩ := h
    obtain ⟨ys, zs, rfl, h3, h4⟩ := AV.rels.split h2
    exact ⟨x :: ys, zs, rfl, by simp only [AV.rels]; exact ⟨_, _, rfl, h1, h3⟩, h4⟩
/-- Names for views of blocks that are there. -/
theorem MRel.views {ρ : Rho} {m m1 : MS} {w : World} (hm : MRel ρ m w) (g : Nat → Nat) (hn : ∀ k b1, look m1.bl k = some b1 → k < m1.nx ∧ b1.wr = false ∧ b1.op = false ∧ b1.cont.ground = true ∧ ∃ b, look m.bl (g k) = some b ∧ b1.cont = b.cont) : MRel (fun k => ρ (g k)) m1 w := by
  refine ⟨fun k b1 h => ?_, fun k b1 k' b2 h1 _ hw _ => ?_, fun k b1 k' b2 h1 _ hw _ => by rw [(hn k b1 h1).2.1] at hw; cases hw⟩
  · obtain ⟨h1, h2, h3, h4, b, hb, hc⟩ := hn k b1 h
    obtain ⟨wr, op, ct⟩ := b1
    simp only at h2 h3 h4 hc
    subst h2 h3 hc
    exact ⟨h1, hm.view hb h4 _ _⟩
  · rw [(hn k b1 h1).2.1] at hw
    cases hw
theorem sl_as {ρ ρ1 : Rho} {nx nx1 l l1 wd r s n : Nat} {nn : Bool} {cap : Option Nat} {x : Value} (h : AV.rel ρ nx (.sl nn l wd r s n cap) x) (hl : l1 < nx1) (e : ρ1 l1 = ρ l) : AV.rel ρ1 nx1 (.sl nn l1 wd r s n cap) x := by
  simp only [AV.rel] at h ⊢
  rw [e]
  exact ⟨hl, h.2⟩
theorem look_one {l k : Nat} {b b' : ABlk} (h : look [(l, some b)] k = some b') : k = l ∧ b' = b := by
  rw [look_cons] at h
  split at h
  · rename_i e; cases h; exact ⟨e.symm, rfl⟩
  · cases h
/-- One slice is handed over, for reading. -/
theorem lift_one {f : FuncId} {m m1' : MS} {args : List AV} {v : AV} {l wd r s n : Nat} {nn : Bool} {cap : Option Nat} {b : ABlk} {ar br : List AV} (hl : look m.bl l = some b) (hg : b.cont.ground = true)
    (h : FSound P f ⟨[(0, some ⟨false, false, b.cont⟩)], 1⟩ (ar ++ .sl nn 0 wd r s n cap :: br) v m1') (hx : args = ar ++ .sl nn l wd r s n cap :: br) (ha : AV.grounds ar = true) (hb : AV.grounds br = true) (hv : v.ground = true) : FSound P f m args v m := by
  refine lift_pure h rfl hv fun ρ w xs hm hr => ?_
  subst hx
  refine ⟨fun _ => ρ l, hm.views (fun _ => l) (fun k b1 hk => ?_), ?_⟩
  · obtain ⟨rfl, rfl⟩ := look_one hk
    exact ⟨by show (0 : Nat) < 1; omega, rfl, rfl, hg, b, hl, rfl⟩
  · obtain ⟨ys, zs, rfl, h1, h2⟩ := hr.split
    simp only [AV.rels] at h2
    obtain ⟨z, zs', rfl, h3, h4⟩ := h2
    exact (AV.grounds_rels _ _ ha h1).append (by simp only [AV.rels]; exact ⟨_, _, rfl, sl_as h3 (by omega) rfl, AV.grounds_rels _ _ hb h4⟩)
end
end Go.Proofs.Ytmjpikkloofakaa

namespace Go.Proofs.Ytmjpikkloofakaa
open Go Go.RowKit
section
variable {P : Program}
theorem calls_fn {f g : FuncId} {m : MS} {args : List AV} {v : AV} (hc : ∀ xs w, (callFunc f xs).run P w = .ok (.enter g xs) w) (h : ∀ (ρ : Rho) (xs : List Value) (w : World), AV.rels ρ m.nx args xs → Calls P g xs.toArray w fun e w' => (∃ x, e = .returned x ∧ AV.rel ρ m.nx v x) ∧ w' = w) : FSound P f m args v m := fun ρ w xs hm hx => by
  refine .inl ⟨g, hc _ w, Calls.mono (h ρ xs w hx) ?_⟩
  rintro e w' ⟨⟨x, rfl, hr⟩, rfl⟩
  exact ⟨x, rfl, ρ, hr, hm, Moves.refl (Nat.le_refl _)⟩
theorem lookF_app {α : Type} : ∀ (l l' : List (FuncId × α)) (k : FuncId), lookF (l ++ l') k = match lookF l k with
    | some g => some g
    | none => lookF l' k
  | [], _, _ => rfl
  | (f, g) :: r, l', k => by
    simp only [List.cons_append, lookF]
    split
    · rfl
    · exact lookF_app r l' k
theorem env_app {l l' : List (FuncId × Spec)} (h : ESound P (envOf l)) (h' : ESound P (envOf l')) : ESound P (envOf (l ++ l')) := by
  refine ⟨fun f m args v mo bs e hb => ?_, (fun m args v mo bs e _ => by cases e)⟩
  unfold envOf at e
  dsimp only at e
  rw [lookF_app] at e
  have h1 := h.fn f m args v mo bs
  have h2 := h'.fn f m args v mo bs
  unfold envOf at h1 h2
  dsimp only at h1 h2
  cases hl : lookF l f with
  | some g =>
    rw [hl] at e h1
    exact h1 e hb
  | none =>
    rw [hl] at e
    exact h2 e hb
/-- One number in, plain values out. -/
theorem calls_int {f g : FuncId} {m : MS} {k : IntKind} {x : Int} {u : Value} (hc : ∀ xs w, (callFunc f xs).run P w = .ok (.enter g xs) w) (h : ∀ w, Calls P g #[.int k x] w fun e w' => e = .returned u ∧ w' = w) : FSound P f m [.val (.int k x)] (.val u) m := by
  refine calls_fn hc fun ρ xs w hx => ?_
  simp only [AV.rels, AV.rel] at hx
  obtain ⟨_, _, rfl, rfl, rfl⟩ := hx
  refine Calls.mono (h w) ?_
  rintro e w' ⟨rfl, rfl⟩
  exact ⟨⟨_, rfl, by simp [AV.rel]⟩, rfl⟩
end
end Go.Proofs.Ytmjpikkloofakaa

namespace Go.Proofs.Ytmjpikkloofakaa
open Go Go.RowKit
def outB (σ : List (Nat × Nat)) (b0 b1 : List (Nat × Option ABlk)) : List (Nat × Nat) → List (Nat × Option ABlk) → List (Nat × Option ABlk)
  | [], r => r
  | (a, k) :: τ, r => match look b1 k with
    | some ⟨true, op, c⟩ => (a, some ⟨true, op, c.ren σ⟩) :: outB σ b0 b1 τ r
    | _ => match look b0 k with
      | some ⟨true, _, _⟩ => (a, none) :: outB σ b0 b1 τ r
      | _ => outB σ b0 b1 τ r
theorem outB_look {σ : List (Nat × Nat)} {b0 b1 r : List (Nat × Option ABlk)} : ∀ {τ : List (Nat × Nat)} {a : Nat} {b : ABlk}, look (outB σ b0 b1 τ r) a = some b →
    (∃ k b', (a, k) ∈ τ ∧ look b1 k = some b' ∧ b'.wr = true ∧ b = ⟨true, b'.op, b'.cont.ren σ⟩) ∨ (look r a = some b ∧ ∀ k, (a, k) ∈ τ → ¬ ∃ b', look b0 k = some b' ∧ b'.wr = true)
  | [], a, b, h => .inr ⟨h, fun k hk => by cases hk⟩
  | (x, y) :: τ, a, b, h => by
    have key : ∀ {o : Option ABlk}, look ((x, o) :: outB σ b0 b1 τ r) a = some b → (∀ b', o = some b' → (∃ c, look b1 y = some c ∧ c.wr = true ∧ b' = ⟨true, c.op, c.cont.ren σ⟩)) →
        (∃ k b', (a, k) ∈ (x, y) :: τ ∧ look b1 k = some b' ∧ b'.wr = true ∧ b = ⟨true, b'.op, b'.cont.ren σ⟩) ∨ (look r a = some b ∧ ∀ k, (a, k) ∈ (x, y) :: τ → ¬ ∃ b', look b0 k = some b' ∧ b'.wr = true) := fun {o} hh ho => by
      rw [look_cons] at hh
      split at hh
      · rename_i e
        subst e
        obtain ⟨c, h1, h2, h3⟩ := ho b hh
        exact .inl ⟨y, c, List.mem_cons_self, h1, h2, h3⟩
      · rename_i e
        rcases outB_look hh with ⟨k, b', h1, h2⟩ | ⟨h1, h2⟩
        · exact .inl ⟨k, b', List.mem_cons_of_mem _ h1, h2⟩
        · refine .inr ⟨h1, fun k hk => ?_⟩
          rcases List.mem_cons.1 hk with e' | hk
          · cases e'; exact absurd rfl e
          · exact h2 k hk
    simp only [outB] at h
    split at h
    · rename_i op c hc
      exact key h fun b' hb' => by cases hb'; exact ⟨_, hc, rfl, rfl⟩
    · split at h
      · exact key h fun b' hb' => by cases hb'
      · rename_i hno
        rcases outB_look h with ⟨k, b', h1, h2⟩ | ⟨h1, h2⟩
        · exact .inl ⟨k, b', List.mem_cons_of_mem _ h1, h2⟩
        · refine .inr ⟨h1, fun k hk => ?_⟩
          rcases List.mem_cons.1 hk with e' | hk
          · cases e'
            rintro ⟨⟨wr, op, c⟩, g1, g2⟩
            simp only at g2
            subst g2
            exact hno _ _ g1
          · exact h2 k hk
section
variable {P : Program}
theorem Cont.ren_rel {ρ ρ' : Rho} {nx nx' : Nat} {σ : List (Nat × Nat)} {k : Cont} {cell : Nat → Option Value} (h : ∀ l l', newOf σ l = some l' → ρ' l' = ρ l ∧ l' < nx') (hr : k.rel ρ nx cell) : (k.ren σ).rel ρ' nx' cell := fun r c a' ha => by
  obtain ⟨a0, e1, rfl⟩ := Cont.ren_at ha
  obtain ⟨x1, x, x2, x3⟩ := hr r c a0 e1
  exact ⟨by rw [Cont.ren_width]; exact x1, x, by rw [Cont.ren_width]; exact x2, AV.ren_rel h _ _ x3⟩
theorem lift_gen {f : FuncId} {m m1 m1' : MS} {args args1 : List AV} {v1 : AV} {σi σo : List (Nat × Nat)} {nx' : Nat} (h : FSound P f m1 args1 v1 m1') (hargs : AV.rens σi args = args1)
    (hi : ∀ k b1, look m1.bl k = some b1 → ∃ a b, (k, a) ∈ σi ∧ look m.bl a = some b ∧ b1.cont = b.cont.ren σi ∧ (b1.wr = true → b.wr = true) ∧ (b1.op = true → b.op = true ∧ b1.wr = true))
    (hi1 : ∀ p ∈ σi, p.1 < m1.nx ∧ (p.2, p.1) ∈ σo) (hd1 : distB (σi.map (·.1)) = true) (hd2 : distB (σi.map (·.2)) = true) (hd3 : distB (σo.map (·.1)) = true) (hd4 : distB (σo.map (·.2)) = true)
    (hs : ∀ p ∈ σi, ∃ b, look m.bl p.2 = some b) (ho' : ∀ p ∈ σo, (p.2, p.1) ∈ σi ∨ (m.nx ≤ p.1 ∧ p.1 < nx')) (hn : m.nx ≤ nx') (hf : ∀ k b, look m1'.bl k = some b → b.wr = true → b.cont.nested = false) : FSound P f m args (v1.ren σo) ⟨outB σo m1.bl m1'.bl σo m.bl, nx'⟩ := by
  intro ρ w xs hm hx
  have ho : ∀ p ∈ σo, p.1 < nx' ∧ (p.1 < m.nx → (p.2, p.1) ∈ σi) := fun p hp => by
    rcases ho' p hp with h1 | h1
    · obtain ⟨b, hb⟩ := hs _ h1
      have := (hm.blk _ b hb).1
      exact ⟨by simp only at this; omega, fun _ => h1⟩
    · exact ⟨h1.2, fun h2 => by omega⟩
  let ρ1 : Rho := fun k => match oldOf σi k with
    | some a => ρ a
    | none => ⟨0, 0, 0, 0⟩
  have hmem1 : ∀ k a, (k, a) ∈ σi → ρ1 k = ρ a := fun k a hk => by simp only [ρ1, oldOf_of hd1 hk]
  have hnew1 : ∀ l l', newOf σi l = some l' → ρ1 l' = ρ l ∧ l' < m1.nx := fun l l' hl => ⟨hmem1 _ _ (newOf_mem hl), (hi1 _ (newOf_mem hl)).1⟩
  have hm1 : MRel ρ1 m1 w := by
    refine ⟨fun k b1 hk => ?_, fun k b1 k' b1' hk hk' hw hne hnv => ?_, fun k b1 k' b1' hk hk' hw hn2 => by
      obtain ⟨a, b, g1, g2, g3, g4, g5⟩ := hi k b1 hk
      obtain ⟨a', b', g1', g2', g3', g4', g5'⟩ := hi k' b1' hk'
      rw [hmem1 k a g1, hmem1 k' a' g1']
      exact hm.deep a b a' b' g2 g2' (g4 hw) (by rw [← Cont.ren_nested, ← g3']; exact hn2)⟩
    · obtain ⟨a, b, g1, g2, g3, g4, g5⟩ := hi k b1 hk
      refine ⟨(hi1 _ g1).1, ?_⟩
      rw [hmem1 k a g1]
      have hb := (hm.blk a b g2).2
      refine ⟨?_, ?_, fun hw => hb.free (g4 hw), fun hop => ?_, fun q hq => QObj.ok.ren hnew1 hb.obj q (by rw [← g3]; exact hq)⟩
      · by_cases hw : b1.wr = true
        · exact .inl (hb.lt.resolve_right (wr_not_void (g4 hw)))
        · rcases hb.lt with hlt | hv
          · exact .inl hlt
          · refine .inr ⟨by simpa using hw, ?_, (fun q hq => Cont.ren_obj hv.2.2.1 q (by rw [← g3]; exact hq)), fun r c a' ha => ?_⟩
            · cases hop : b1.op with
              | false => rfl
              | true => have := (g5 hop).1; rw [hv.2.1] at this; cases this
            · rw [g3] at ha
              obtain ⟨a0, e1, _⟩ := Cont.ren_at ha
              exact hv.2.2.2 r c a0 e1
      · rw [g3]; exact Cont.ren_rel hnew1 hb.rel
      · exact ⟨(g5 hop).2, (hb.room (g5 hop).1).2⟩
    · obtain ⟨a, b, g1, g2, g3, g4, g5⟩ := hi k b1 hk
      obtain ⟨a', b', g1', g2', g3', g4', g5'⟩ := hi k' b1' hk'
      rw [hmem1 k a g1, hmem1 k' a' g1']
      refine hm.apart a b a' b' g2 g2' (g4 hw) (fun e => hne ?_) fun hv => hnv ⟨?_, ?_, (fun q hq => Cont.ren_obj hv.2.2.1 q (by rw [← g3']; exact hq)), fun r c a0 ha => ?_⟩
      · subst e
        exact dist_old hd2 g1' g1
      · cases hw' : b1'.wr with
        | false => rfl
        | true => have := g4' hw'; rw [hv.1] at this; cases this
      · cases hw' : b1'.op with
        | false => rfl
        | true => have := (g5' hw').1; rw [hv.2.1] at this; cases this
      · rw [g3'] at ha
        obtain ⟨a1, e1, _⟩ := Cont.ren_at ha
        exact hv.2.2.2 r c a1 e1
  have hx1 : AV.rels ρ1 m1.nx args1 xs := by rw [← hargs]; exact AV.rens_rels hnew1 _ _ hx
  refine Went.mono (h ρ1 w xs hm1 hx1) fun x w' ⟨ρ2, hr, hm2, mv⟩ => ?_
  have hWr1 : ∀ g, Wr ρ1 m1 g → Wr ρ m g := fun g ⟨k, b1, h1, h2, h3⟩ => by
    obtain ⟨a, b, g1, g2, g3, g4, g5⟩ := hi k b1 h1
    exact ⟨a, b, g2, g4 h2, by rw [← hmem1 k a g1]; exact h3⟩
  let ρ' : Rho := fun j => match oldOf σo j with
    | some k => ρ2 k
    | none => ρ j
  have hmem2 : ∀ j k, (j, k) ∈ σo → ρ' j = ρ2 k := fun j k hk => by simp only [ρ', oldOf_of hd3 hk]
  have hnew2 : ∀ l l', newOf σo l = some l' → ρ' l' = ρ2 l ∧ l' < nx' := fun l l' hl => ⟨hmem2 _ _ (newOf_mem hl), (ho _ (newOf_mem hl)).1⟩
  have hext : ∀ j, j < m.nx → ρ' j = ρ j := fun j hj => by
    simp only [ρ']
    split
    · rename_i k hk
      have h1 := oldOf_mem hk
      have h2 := (ho _ h1).2 hj
      rw [mv.ext k (hi1 _ h2).1, hmem1 k j h2]
    · rfl
  -- a block that was not handed over to be written
  have hkeepB : ∀ a b, look m.bl a = some b → (∀ k, (a, k) ∈ σo → ¬ ∃ b', look m1.bl k = some b' ∧ b'.wr = true) → ¬ b.void → ¬ Wr ρ1 m1 (ρ a).b := fun a b ha hno hnv ⟨k, b1, h1, h2, h3⟩ => by
    obtain ⟨a', b', g1, g2, g3, g4, g5⟩ := hi k b1 h1
    rw [hmem1 k a' g1] at h3
    by_cases e : a = a'
    · subst e
      exact hno k (hi1 _ g1).2 ⟨b1, h1, h2⟩
    · exact hm.apart a' b' a b g2 ha (g4 h2) e hnv h3.symm
  have hcase : ∀ a b, look (outB σo m1.bl m1'.bl σo m.bl) a = some b → b.wr = true ∨ look m.bl a = some b := fun a b hab => by
    rcases outB_look hab with ⟨k, b', h1, h2, h3, rfl⟩ | ⟨h1, h2⟩
    · exact .inl rfl
    · exact .inr h1
  refine ⟨ρ', AV.ren_rel hnew2 _ _ hr, ⟨fun a b ha => ?_, fun a b a' b' ha ha' hw hne hnv => ?_, fun a b a' b' ha ha' hw hn2 => ?_⟩, ⟨hext, hn, mv.os, mv.tape, mv.output, mv.size, fun g hg hno => mv.keep g hg fun hw => hno (hWr1 g hw), fun g ⟨a, b, h1, h2, h3⟩ => ?_⟩⟩
  · rcases outB_look ha with ⟨k, b', h1, h2, h3, rfl⟩ | ⟨h1, h2⟩
    · refine ⟨(ho _ h1).1, ?_⟩
      rw [hmem2 a k h1]
      have hb := (hm2.blk k b' h2).2
      exact ⟨.inl (hb.lt.resolve_right (wr_not_void h3)), Cont.ren_rel hnew2 hb.rel, fun _ => hb.free h3, fun hop => ⟨rfl, (hb.room hop).2⟩, fun q hq => QObj.ok.ren hnew2 hb.obj q hq⟩
    · obtain ⟨q1, q2⟩ := hm.blk a b h1
      refine ⟨by show a < nx'; omega, ?_⟩
      rw [hext a q1]
      rcases q2.lt with hlt | hv
      · by_cases hv : b.void
        · exact ABlk.ok.any hv _
        · exact q2.ext hext hn mv.size (mv.keep _ hlt (hkeepB a b h1 h2 hv)) fun hn' g hg => mv.keep g (q2.tlt hn' g hg) fun hW => by
            obtain ⟨a0, b0, p1, p2, p3⟩ := hWr1 g hW
            rw [← p3, hm.deep a0 b0 a b p1 h1 p2 hn'] at hg; cases hg
      · exact ABlk.ok.any hv _
  · rcases outB_look ha with ⟨k, c, h1, h2, h3, rfl⟩ | ⟨h1, h2⟩
    · rw [hmem2 a k h1]
      rcases outB_look ha' with ⟨k', c', h1', h2', h3', rfl⟩ | ⟨h1', h2'⟩
      · rw [hmem2 a' k' h1']
        exact hm2.apart k c k' c' h2 h2' h3 (fun e => hne (by subst e; exact dist_old hd4 h1' h1)) (wr_not_void h3')
      · obtain ⟨q1, q2⟩ := hm.blk a' b' h1'
        rw [hext a' q1]
        have hlt := q2.lt.resolve_right hnv
        rcases mv.fresh (ρ2 k).b ⟨k, c, h2, h3, rfl⟩ with hW | hge
        · intro e
          rw [← e] at hW
          exact hkeepB a' b' h1' h2' hnv hW
        · omega
    · obtain ⟨q1, q2⟩ := hm.blk a b h1
      have hlt := q2.lt.resolve_right (wr_not_void hw)
      rw [hext a q1]
      rcases outB_look ha' with ⟨k', c', h1', h2', h3', rfl⟩ | ⟨h1', h2'⟩
      · rw [hmem2 a' k' h1']
        rcases mv.fresh (ρ2 k').b ⟨k', c', h2', h3', rfl⟩ with hW | hge
        · intro e
          rw [e] at hW
          exact hkeepB a b h1 h2 (wr_not_void hw) hW
        · omega
      · rw [hext a' (hm.blk a' b' h1').1]
        exact hm.apart a b a' b' h1 h1' hw hne hnv
  · rcases outB_look ha' with ⟨k', c', h1', h2', h3', rfl⟩ | ⟨h1', h2'⟩
    · have e1 : (Cont.ren σo c'.cont).nested = true := hn2
      rw [Cont.ren_nested, hf k' c' h2' h3'] at e1; cases e1
    · obtain ⟨q1, q2⟩ := hm.blk a' b' h1'
      rw [hext a' q1]
      have old : ∀ g, Wr ρ m g → (ρ a').tg.testBit g = false := fun g ⟨a0, b0, p1, p2, p3⟩ => by rw [← p3]; exact hm.deep a0 b0 a' b' p1 h1' p2 hn2
      rcases outB_look ha with ⟨k, c, h1, h2, h3, rfl⟩ | ⟨h1, h2⟩
      · rw [hmem2 a k h1]
        rcases mv.fresh (ρ2 k).b ⟨k, c, h2, h3, rfl⟩ with hW | hge
        · exact old _ (hWr1 _ hW)
        · cases hbt : (ρ a').tg.testBit (ρ2 k).b with
          | false => rfl
          | true => have := q2.tlt hn2 _ hbt; omega
      · rw [hext a (hm.blk a b h1).1]
        exact old _ ⟨a, b, h1, hw, rfl⟩
  · rcases outB_look h1 with ⟨k, c, e1, e2, e3, rfl⟩ | ⟨e1, e2⟩
    · rw [hmem2 a k e1] at h3
      rcases mv.fresh g ⟨k, c, e2, e3, h3⟩ with hW | hge
      · exact .inl (hWr1 g hW)
      · exact .inr hge
    · rw [hext a (hm.blk a b e1).1] at h3
      exact .inl ⟨a, b, e1, h2, h3⟩
mutual
theorem AV.ren_ground {σ : List (Nat × Nat)} : ∀ (a : AV), a.ground = true → a.ren σ = a
  | .unk, _ => rfl
  | .val _, _ => rfl
  | .any _, _ => rfl
  | .ptr .., h => by cases h
  | .sl .., h => by cases h
  | .gd _ _ _ v, h => by simp only [AV.ground] at h; simp only [AV.ren]; rw [AV.ren_ground v h]
  | .clo f a b, h => by simp only [AV.ground, Bool.and_eq_true] at h; simp only [AV.ren]; rw [AV.rens_ground a h.1, AV.rens_ground b h.2]
  | .agg cs, h => by simp only [AV.ground] at h; simp only [AV.ren]; rw [AV.rens_ground cs h]
  | .tup cs, h => by simp only [AV.ground] at h; simp only [AV.ren]; rw [AV.rens_ground cs h]
theorem AV.rens_ground {σ : List (Nat × Nat)} : ∀ (as : List AV), AV.grounds as = true → AV.rens σ as = as
  | [], _ => rfl
  | a :: as, h => by
    simp only [AV.grounds, Bool.and_eq_true] at h
    simp only [AV.rens]
    rw [AV.ren_ground a h.1, AV.rens_ground as h.2]
end
theorem renF_ground {σ : List (Nat × Nat)} : ∀ (fo : List (Nat × Nat × AV)), AV.grounds (foAVs fo) = true → renF σ fo = fo
  | [], _ => rfl
  | (c, r, a) :: l, h => by
    simp only [foAVs, AV.grounds, Bool.and_eq_true] at h
    simp only [renF]
    rw [AV.ren_ground a h.1, renF_ground l h.2]
theorem Cont.ren_ground {σ : List (Nat × Nat)} {k : Cont} (h : k.ground = true) : k.ren σ = k := by
  cases k with
  | cells l => simp only [Cont.ren]; rw [AV.rens_ground l h]
  | col c => rfl
  | rows cs => rfl
  | obj q => cases q with
    | glob g vs => rfl
    | loop st pe tm ps asg body => cases h
    | typed t l => simp only [Cont.ren]; rw [AV.rens_ground l h]
    | trow t s => rfl
    | mpo fk fv es => rfl
    | mit tm n0 seen => cases h
    | nest cs fo => simp only [Cont.ren]; rw [renF_ground fo h]
theorem rens_append {σ : List (Nat × Nat)} : ∀ (as bs : List AV), AV.rens σ (as ++ bs) = AV.rens σ as ++ AV.rens σ bs
  | [], bs => rfl
  | a :: as, bs => by simp only [List.cons_append, AV.rens]; rw [rens_append as bs]
theorem FSound.less {f : FuncId} {m m' m2 : MS} {args : List AV} {v : AV} (h : FSound P f m args v m') (hn : m'.nx = m2.nx) (hl : ∀ l b, look m2.bl l = some b → look m'.bl l = some b) : FSound P f m args v m2 := fun ρ w xs hm hx =>
  (h ρ w xs hm hx).mono fun x w' ⟨ρ', h1, h2, mv⟩ => ⟨ρ', by rw [← hn]; exact h1, h2.less (by omega) hl, mv.ext, by rw [← hn]; exact mv.nx, mv.os, mv.tape, mv.output, mv.size, mv.keep, fun g ⟨l, b, g1, g2, g3⟩ => mv.fresh g ⟨l, b, hl l b g1, g2, g3⟩⟩
/-- A pointer to a block of plain values, which may be written. -/
theorem lift_w1 {f : FuncId} {m : MS} {ar br : List AV} {v : AV} {l w r c top : Nat} {b : ABlk} {o' : Bool} {c' : Cont} (hl : look m.bl l = some b) (hw : b.wr = true) (hg : b.cont.ground = true)
    (h : FSound P f ⟨[(0, some ⟨true, false, b.cont⟩)], 1⟩ (ar ++ .ptr 0 w r c :: br) v ⟨[(0, some ⟨true, o', c'⟩)], top⟩) (har : AV.grounds ar = true) (hbr : AV.grounds br = true) (hv : v.ground = true) (hc : c'.ground = true) (hfl : c'.nested = false := by rfl) :
    FSound P f m (ar ++ .ptr l w r c :: br) v ⟨upd m.bl l (some ⟨true, o', c'⟩), m.nx⟩ := by
  have := lift_gen (m := m) (args := ar ++ .ptr l w r c :: br) (σi := [(0, l)]) (σo := [(l, 0)]) (nx' := m.nx) h (by
      rw [rens_append, AV.rens_ground _ har]
      simp only [AV.rens, AV.ren, newOf, Nat.beq_refl]
      rw [AV.rens_ground _ hbr]) (fun k b1 hk => by
      obtain ⟨rfl, rfl⟩ := look_one hk
      exact ⟨l, b, List.mem_cons_self, hl, (Cont.ren_ground hg).symm, fun _ => hw, fun h => by cases h⟩)
    (fun p hp => by
      rcases List.mem_cons.1 hp with rfl | hp
      · exact ⟨Nat.zero_lt_one, List.mem_cons_self⟩
      · cases hp) rfl rfl rfl rfl
    (fun p hp => by
      rcases List.mem_cons.1 hp with rfl | hp
      · exact ⟨b, hl⟩
      · cases hp)
    (fun p hp => by
      rcases List.mem_cons.1 hp with rfl | hp
      · exact .inl List.mem_cons_self
      · cases hp) (Nat.le_refl _) (fun k b hk _ => by obtain ⟨rfl, rfl⟩ := look_one hk; exact hfl)
  rw [AV.ren_ground _ hv] at this
  refine this.less rfl fun k bk hk => ?_
  have e : outB [(l, 0)] [(0, some ⟨true, false, b.cont⟩)] [(0, some ⟨true, o', c'⟩)] [(l, 0)] m.bl = (l, some ⟨true, o', c'⟩) :: m.bl := by
    simp only [outB, look, Nat.beq_refl, Cont.ren_ground hc]
  rw [look_upd] at hk
  show look (outB [(l, 0)] [(0, some ⟨true, false, b.cont⟩)] [(0, some ⟨true, o', c'⟩)] [(l, 0)] m.bl) k = some bk
  rw [e, look_cons]
  exact hk
end
end Go.Proofs.Ytmjpikkloofakaa

namespace Go.Proofs.Ytmjpikkloofakaa
open Go Go.RowKit
def finI (P : Program) (fn : Func) : Out → List Bool → Option (AV × Option MS × List Bool)
  | .ret tm m, bs => match resA P fn tm m with
    | some (v, bs') => some (v, some m, bs ++ bs')
    | none => none
  | .head .., _ => none
  | .left .., _ => none
def inl (P : Program) (l : List (FuncId × Spec)) (f : Func) : Spec := fun m args =>
  run P (envOf l) (drawAB P (envOf l)) [] (finI P f) 1000000 (enterA f (bodyOf f) args m).todo (enterA f (bodyOf f) args m).tm m []
theorem inl_ok {P : Program} {l : List (FuncId × Spec)} {f g : FuncId} {fn : Func} {c : Code} (hE : ESound P (envOf l)) (hm : MixedOk P) (hc : ∀ xs w, (callFunc f xs).run P w = .ok (.enter g xs) w) (hf : P.funcs[g]? = some fn) (hb : fn.body = some c) : SpecOk P f (inl P l fn) := by
  intro m args v mo bs h hbs
  have e : bodyOf fn = c := by unfold bodyOf; rw [hb]
  unfold inl at h
  rw [e] at h
  refine fsound hc hf hb ?_
  obtain ⟨o, bs', h0, _, h2⟩ := run_ok (B := m.nx) hE (drawAB_ok hE hm) (by rfl) _ _ _ _ _ _ h
  cases o with
  | ret tm1 m1 =>
    simp only [finI] at h0
    split at h0
    · rename_i v1 bs1 hr
      cases h0
      obtain ⟨b1, b2⟩ := all_app hbs
      intro b cs ρ a w hro ht hm hB
      obtain ⟨ρ', a', w', todo', st, ht', hd', hm', mv⟩ := h2 b1 b cs ρ a w hro ht hm hB
      obtain ⟨x, hx1, hx2⟩ := resA_ok (P := P) hr ht' hm' b2
      exact ⟨ρ', a', w', todo', x, st, hd', hx1, hx2, hm', mv⟩
    · cases h0
  | head todo1 tm1 m1 => simp only [finI] at h0; cases h0
  | left j1 tm1 m1 => cases h0
/-- The same, of plain values alone: nothing else is seen. -/
def inlP (P : Program) (l : List (FuncId × Spec)) (f : Func) : Spec := fun _ args => match AV.grounds args with
  | true => match inl P l f noMem args with
    | some (v, some _, bs) => match v.ground with
      | true => some (v, none, bs)
      | false => none
    | _ => none
  | false => none
theorem inlP_ok {P : Program} {l : List (FuncId × Spec)} {f g : FuncId} {fn : Func} {c : Code} (hE : ESound P (envOf l)) (hm : MixedOk P) (hc : ∀ xs w, (callFunc f xs).run P w = .ok (.enter g xs) w) (hf : P.funcs[g]? = some fn) (hb : fn.body = some c) : SpecOk P f (inlP P l fn) := by
  intro m args v mo bs h hbs
  unfold inlP at h
  split at h
  · rename_i ha
    split at h
    · rename_i v' m' bs' hi
      split at h
      · rename_i hv
        cases h
        exact lift_ground (inl_ok hE hm hc hf hb noMem args v (some m') bs hi hbs) ha hv
      · cases h
    · cases h
  · cases h
/-- One contract, or else another. -/
def orS (a b : Spec) : Spec := fun m args => match a m args with
  | some r => some r
  | none => b m args
theorem orS_ok {P : Program} {f : FuncId} {a b : Spec} (ha : SpecOk P f a) (hb : SpecOk P f b) : SpecOk P f (orS a b) := by
  intro m args v mo bs h hbs
  unfold orS at h
  split at h
  · rename_i r hr
    cases h
    exact ha m args v mo bs hr hbs
  · exact hb m args v mo bs h hbs
end Go.Proofs.Ytmjpikkloofakaa

namespace Go.Proofs.Ytmjpikkloofakaa
open Go Go.RowKit
def runO {β : Type} (P : Program) (E : Env) (D : Array Oper → List AV → MS → Option (List AV × MS × List Bool)) (cuts : List Cut) (K : Out → List Bool → Option β) : Nat → List Nat → List Item → List AV → MS → List Bool → Option β
  | n, [], todo, tm, m, acc => run P E D cuts K n todo tm m acc
  | 0, _ :: _, _, _, _, _ => none
  | n + 1, q :: orc, todo, tm, m, acc => match todo with
    | [] => K (outA cuts none tm m) acc
    | .code c :: k => match c with
      | .ret => K (outA cuts (some .ret) tm m) acc
      | .skip => runO P E D cuts K n (q :: orc) k tm m acc
      | .label _ => runO P E D cuts K n (q :: orc) k tm m acc
      | .seq a b => runO P E D cuts K n (q :: orc) (.code a :: .code b :: k) tm m acc
      | .cond c x y => match evA tm c with
        | .val (.bool t) => match q with
          | 0 => runO P E D cuts K n orc (.code y :: k) tm m (acc ++ [!t])
          | 1 => runO P E D cuts K n orc (.code x :: k) tm m (acc ++ [t])
          | _ => bif t then runO P E D cuts K n orc (.code x :: k) tm m acc else runO P E D cuts K n orc (.code y :: k) tm m acc
        | _ => none
      | .block id b => runO P E D cuts K n (q :: orc) (.code b :: .inBlock id :: k) tm m acc
      | .loop b => match cutAt cuts k.length with
        | some (live, names, nx) => match AV.locsBs nx (maskA live 0 tm) && blocksB nx (keepB m names) with
          | true => K (.head (.code b :: .inLoop b :: k) (maskA live 0 tm) ⟨keepB m names, nx⟩) acc
          | false => none
        | none => runO P E D cuts K n (q :: orc) (.code b :: .inLoop b :: k) tm m acc
      | .scope b => runO P E D cuts K n (q :: orc) (.code b :: .inScope b :: k) tm m acc
      | .exit id => match exitTo id k with
        | some k' => runO P E D cuts K n (q :: orc) k' tm m acc
        | none => none
      | .region _ ops draw => match regA P E D ops draw tm m with
        | some (tm', m', bs) => runO P E D cuts K n (q :: orc) k tm' m' (acc ++ bs)
        | none => none
      | _ => none
    | .inBlock _ :: k => runO P E D cuts K n (q :: orc) k tm m acc
    | .inScope _ :: k => runO P E D cuts K n (q :: orc) k tm m acc
    | .inLoop b :: k => match cutAt cuts k.length with
      | some (live, names, nx) => match AV.locsBs nx (maskA live 0 tm) && blocksB nx (keepB m names) with
        | true => K (.head (.code b :: .inLoop b :: k) (maskA live 0 tm) ⟨keepB m names, nx⟩) acc
        | false => none
      | none => runO P E D cuts K n (q :: orc) (.code b :: .inLoop b :: k) tm m acc
    | _ => none
section
variable {P : Program} {E : Env} {D : Array Oper → List AV → MS → Option (List AV × MS × List Bool)} {cuts : List Cut}
theorem runO_nil {β : Type} {K : Out → List Bool → Option β} (n : Nat) (todo : List Item) (tm : List AV) (m : MS) (acc : List Bool) : runO P E D cuts K n [] todo tm m acc = run P E D cuts K n todo tm m acc := by
  cases n <;> rfl
theorem runO_ok {β : Type} {K : Out → List Bool → Option β} {B : Nat} (hE : ESound P E) (hD : DSound P D) (hC : cutsB B cuts = true) : ∀ (n : Nat) (orc : List Nat) (todo : List Item) (tm : List AV) (m : MS) (acc : List Bool) (r : β), runO P E D cuts K n orc todo tm m acc = some r →
    ∃ o bs, K o bs = some r ∧ (∃ l, bs = acc ++ l) ∧ (bs.all id = true → Ends P B ⟨todo, tm, m⟩ o)
  | n, [], todo, tm, m, acc, r, h => by
    rw [runO_nil] at h
    exact run_ok hE hD hC n todo tm m acc r h
  | 0, q :: orc, todo, tm, m, acc, r, h => by cases h
  | n + 1, q :: orc, todo, tm, m, acc, r, h => by
    have IH := fun todo tm m acc r h => runO_ok (K := K) (B := B) hE hD hC n (q :: orc) todo tm m acc r h
    have IH' := fun todo tm m acc r h => runO_ok (K := K) (B := B) hE hD hC n orc todo tm m acc r h
    have one : ∀ (todo' : List Item), runO P E D cuts K n (q :: orc) todo' tm m acc = some r → (∀ (b : Frame) (cs : List Frame) (a : Act) (w : World), step P (lone (b.atR a todo) cs w) = .next (lone (b.atR a todo') cs w)) → ∃ o bs, K o bs = some r ∧ (∃ l, bs = acc ++ l) ∧ (bs.all id = true → Ends P B ⟨todo, tm, m⟩ o) := fun todo' h' hs => by
      obtain ⟨o, bs, h0, h1, h2⟩ := IH _ _ _ _ _ h'
      exact ⟨o, bs, h0, h1, fun hb => Goes.ends (Goes.step fun b cs a w ρ _ => .one (hs b cs a w)) (h2 hb)⟩
    have hd : ∀ (todo' : List Item) (live names : List Nat) (nx k0 : Nat), cutAt cuts k0 = some (live, names, nx) → (AV.locsBs nx (maskA live 0 tm) && blocksB nx (keepB m names)) = true → K (Out.head todo' (maskA live 0 tm) ⟨keepB m names, nx⟩) acc = some r → (∀ (b : Frame) (cs : List Frame) (a : Act) (w : World), step P (lone (b.atR a todo) cs w) = .next (lone (b.atR a todo') cs w)) → ∃ o bs, K o bs = some r ∧ (∃ l, bs = acc ++ l) ∧ (bs.all id = true → Ends P B ⟨todo, tm, m⟩ o) := fun todo' live names nx k0 hcc hk h' hs => by
      simp only [Bool.and_eq_true] at hk
      exact ⟨_, _, h', ⟨[], by simp⟩, fun _ b cs ρ a w ht hm hB => ⟨ρ, a, w, .one (hs b cs a w), AV.rels.down _ _ hk.1 (maskA_rels 0 ht), rfl, hm.cut hk.2,
        ⟨fun _ _ => rfl, cutAt_nx hC hcc, rfl, rfl, ⟨rfl, Nat.le_refl _⟩, Nat.le_refl _, fun _ _ _ => rfl, fun g hg => .inl (Wr.kept (fun l b hl => look_keepB m l b names hl) hg)⟩⟩⟩
    have rt : ∀ j, K (outA cuts j tm m) acc = some r → LeftAt todo j → (∀ (b : Frame) (cs : List Frame) (a : Act) (w : World), b.roundOf = none → step P (lone (b.atR a todo) cs w) = .next (lone { b.atR a todo with mode := .returning } cs w)) → ∃ o bs, K o bs = some r ∧ (∃ l, bs = acc ++ l) ∧ (bs.all id = true → Ends P B ⟨todo, tm, m⟩ o) := fun j h' hl hs => by
      unfold outA at h'
      split at h'
      · exact ⟨_, _, h', ⟨[], by simp⟩, fun _ b cs ρ a w ht hm hB => ⟨ρ, a, w, todo, Steps.refl _ _, hl, ht, rfl, hm, Moves.refl hB⟩⟩
      · exact ⟨_, _, h', ⟨[], by simp⟩, fun _ b cs ρ a w hro ht hm hB => ⟨ρ, a, w, todo, .one (hs b cs a w hro), ht, rfl, hm, Moves.refl hB⟩⟩
    simp only [runO] at h
    split at h
    · exact rt _ h rfl fun b cs a w hro => stepR_end hro
    · split at h
      · exact rt _ h ⟨_, rfl⟩ fun b cs a w hro => stepR_ret hro
      · exact one _ h fun b cs a w => stepR_skip
      · exact one _ h fun b cs a w => stepR_label
      · exact one _ h fun b cs a w => stepR_seq
      · rename_i c x y
        split at h
        · rename_i t ht
          have hst : ∀ (b : Frame) (cs : List Frame) (a : Act) (w : World) (ρ : Rho) (k : List Item), AV.rels ρ m.nx tm a.tmps.toList → step P (lone (b.atR a (.code (.cond c x y) :: k)) cs w) = .next (lone (b.atR a (.code (if t then x else y) :: k)) cs w) := fun b cs a w ρ k hr => stepR_cond (by
            have := evA_ok hr c
            rw [ht] at this
            simpa only [AV.rel] using this)
          split at h
          · obtain ⟨o, bs, h0, ⟨l, hl⟩, h2⟩ := IH' _ _ _ _ _ h
            refine ⟨o, bs, h0, ⟨[!t] ++ l, by rw [hl, List.append_assoc]⟩, fun hb => ?_⟩
            have hb' := hb
            rw [hl] at hb'
            have ht' := (all_app (all_app hb').1).2
            simp only [List.all_cons, List.all_nil, Bool.and_true, id, Bool.not_eq_true'] at ht'
            subst ht'
            exact Goes.ends (Goes.step fun b cs a w ρ hr => .one (hst b cs a w ρ _ hr)) (h2 hb)
          · obtain ⟨o, bs, h0, ⟨l, hl⟩, h2⟩ := IH' _ _ _ _ _ h
            refine ⟨o, bs, h0, ⟨[t] ++ l, by rw [hl, List.append_assoc]⟩, fun hb => ?_⟩
            have hb' := hb
            rw [hl] at hb'
            have ht' := (all_app (all_app hb').1).2
            simp only [List.all_cons, List.all_nil, Bool.and_true, id] at ht'
            subst ht'
            exact Goes.ends (Goes.step fun b cs a w ρ hr => .one (hst b cs a w ρ _ hr)) (h2 hb)
          · cases t with
            | true =>
              obtain ⟨o, bs, h0, h1, h2⟩ := IH' _ _ _ _ _ h
              exact ⟨o, bs, h0, h1, fun hb => Goes.ends (Goes.step fun b cs a w ρ hr => .one (hst b cs a w ρ _ hr)) (h2 hb)⟩
            | false =>
              obtain ⟨o, bs, h0, h1, h2⟩ := IH' _ _ _ _ _ h
              exact ⟨o, bs, h0, h1, fun hb => Goes.ends (Goes.step fun b cs a w ρ hr => .one (hst b cs a w ρ _ hr)) (h2 hb)⟩
        · cases h
      · exact one _ h fun b cs a w => stepR_block
      · split at h
        · rename_i hcc
          split at h
          · rename_i hk
            exact hd _ _ _ _ _ hcc hk h fun b cs a w => stepR_loop
          · cases h
        · exact one _ h fun b cs a w => stepR_loop
      · exact one _ h fun b cs a w => stepR_scope
      · split at h
        · rename_i hk
          exact one _ h fun b cs a w => stepR_exit hk
        · cases h
      · split at h
        · rename_i tm' m' bs' hreg
          obtain ⟨o, bs, h0, ⟨l, hl⟩, h2⟩ := IH _ _ _ _ _ h
          refine ⟨o, bs, h0, ⟨bs' ++ l, by rw [hl, List.append_assoc]⟩, fun hb => Goes.ends (regA_goes hE hD hreg ?_) (h2 hb)⟩
          rw [hl] at hb
          exact (all_app (all_app hb).1).2
        · cases h
      · cases h
    · exact one _ h fun b cs a w => stepR_inBlock
    · exact one _ h fun b cs a w => stepR_inScope
    · split at h
      · rename_i hcc
        split at h
        · rename_i hk
          exact hd _ _ _ _ _ hcc hk h fun b cs a w => stepR_inLoop
        · cases h
      · exact one _ h fun b cs a w => stepR_inLoop
    · cases h
end
/-- A whole function, its tests as said: 0 it fails, 1 it holds, 2 as it comes. -/
def FO_ (P : Program) (l : List (FuncId × Spec)) (f : Func) (cuts : List Cut) (ns : List Nat) (top : Nat) (orc : List Nat) (args : List AV) (m : MS) : Option Fin_ :=
  runO P (envOf l) (drawAB P (envOf l)) cuts (finA P f ns top) 1000000 orc (enterA f (bodyOf f) args m).todo (enterA f (bodyOf f) args m).tm m []
def HO_ (P : Program) (l : List (FuncId × Spec)) (f : Func) (cuts : List Cut) (ns : List Nat) (top : Nat) (orc : List Nat) (todo : List Item) (tm : List AV) (m : MS) : Option Fin_ :=
  runO P (envOf l) (drawAB P (envOf l)) cuts (finA P f ns top) 1000000 orc todo tm m []
section
variable {P : Program}
theorem HO_ret {l : List (FuncId × Spec)} {f : Func} {cuts : List Cut} {ns : List Nat} {top : Nat} {orc : List Nat} {todo : List Item} {tm : List AV} {m m' : MS} {v : AV} {B : Nat} {chk : Bool} (hE : ESound P (envOf l)) (hM : MixedOk P) (hC : cutsB B cuts = true)
    (h : HO_ P l f cuts ns top orc todo tm m = some (.ret v m' chk)) (hc : chk = true) : Gives_ P f B ⟨todo, tm, m⟩ v m' := by
  subst hc
  obtain ⟨o, bs, h0, _, h2⟩ := runO_ok (B := B) hE (drawAB_ok hE hM) hC _ _ _ _ _ _ _ h
  cases o with
  | ret tm1 m1 =>
    simp only [finA] at h0
    split at h0
    · rename_i hn
      have hn := Nat.le_of_ble_eq_true hn
      split at h0
      · rename_i v1 bs1 hr
        simp only [Option.some.injEq, Fin_.ret.injEq] at h0
        obtain ⟨rfl, rfl, h3⟩ := h0
        obtain ⟨b1, b2⟩ := all_app (conj_all h3)
        intro b cs ρ a w hro ht hm hB
        obtain ⟨ρ', a', w', todo', st, ht', hd', hm', mv⟩ := h2 b1 b cs ρ a w hro ht hm hB
        obtain ⟨x, hx1, hx2⟩ := resA_ok (P := P) hr ht' hm' b2
        exact ⟨ρ', a', w', todo', x, st, hd', hx1, hx2.up hn, hm'.keep ns top hn, mv.kept ns top hn⟩
      · cases h0
    · cases h0
  | head todo1 tm1 m1 => simp only [finA] at h0; cases h0
  | left j1 tm1 m1 => cases h0
theorem HO_head {l : List (FuncId × Spec)} {f : Func} {cuts : List Cut} {ns : List Nat} {top : Nat} {orc : List Nat} {todo todo' : List Item} {tm tm' : List AV} {m m' : MS} {B : Nat} {chk : Bool} (hE : ESound P (envOf l)) (hM : MixedOk P) (hC : cutsB B cuts = true)
    (h : HO_ P l f cuts ns top orc todo tm m = some (.head todo' tm' m' chk)) (hc : chk = true) : Goes P B ⟨todo, tm, m⟩ ⟨todo', tm', m'⟩ := by
  subst hc
  obtain ⟨o, bs, h0, _, h2⟩ := runO_ok (B := B) hE (drawAB_ok hE hM) hC _ _ _ _ _ _ _ h
  cases o with
  | ret tm1 m1 =>
    simp only [finA] at h0
    split at h0
    · split at h0 <;> cases h0
    · cases h0
  | head todo1 tm1 m1 =>
    simp only [finA, Option.some.injEq, Fin_.head.injEq] at h0
    obtain ⟨rfl, rfl, rfl, h3⟩ := h0
    exact h2 (conj_all h3)
  | left j1 tm1 m1 => cases h0
theorem FO_ret {l : List (FuncId × Spec)} {f : Func} {c : Code} {cuts : List Cut} {ns : List Nat} {top : Nat} {orc : List Nat} {args : List AV} {m m' : MS} {v : AV} {chk : Bool} (hE : ESound P (envOf l)) (hM : MixedOk P) (hC : cutsB m.nx cuts = true) (hb : f.body = some c)
    (h : FO_ P l f cuts ns top orc args m = some (.ret v m' chk)) (hc : chk = true) : Gives_ P f m.nx (enterA f c args m) v m' := by
  have e : bodyOf f = c := by unfold bodyOf; rw [hb]
  unfold FO_ at h
  rw [e] at h
  exact HO_ret hE hM hC h hc
theorem FO_head {l : List (FuncId × Spec)} {f : Func} {c : Code} {cuts : List Cut} {ns : List Nat} {top : Nat} {orc : List Nat} {args : List AV} {m m' : MS} {todo : List Item} {tm : List AV} {chk : Bool} (hE : ESound P (envOf l)) (hM : MixedOk P) (hC : cutsB m.nx cuts = true) (hb : f.body = some c)
    (h : FO_ P l f cuts ns top orc args m = some (.head todo tm m' chk)) (hc : chk = true) : Goes P m.nx (enterA f c args m) ⟨todo, tm, m'⟩ := by
  have e : bodyOf f = c := by unfold bodyOf; rw [hb]
  unfold FO_ at h
  rw [e] at h
  exact HO_head hE hM hC h hc
end
end Go.Proofs.Ytmjpikkloofakaa

namespace Go.Proofs.Ytmjpikkloofakaa
open Go Go.RowKit

/-- The parameters of a round. -/
def setPs : List AV → List Nat → List AV → Option (List AV)
  | tm, [], [] => some tm
  | tm, p :: ps, a :: as => setPs (tm.set p a) ps as
  | _, _, _ => none
theorem setPs_rels {ρ : Rho} {nx : Nat} : ∀ {ps : List Nat} {as tm tm' : List AV} {ys : List Value} {arr : Array Value}, setPs tm ps as = some tm' → AV.rels ρ nx tm arr.toList → AV.rels ρ nx as ys →
    ps.length = ys.length ∧ AV.rels ρ nx tm' ((ps.zip ys).foldl (fun (t : Array Value) p => t.setIfInBounds p.1 p.2) arr).toList
  | [], [], tm, tm', ys, arr, h, ht, hy => by
    simp only [AV.rels] at hy
    subst hy
    cases h
    exact ⟨rfl, ht⟩
  | [], _ :: _, tm, tm', ys, arr, h, _, _ => by cases h
  | _ :: _, [], tm, tm', ys, arr, h, _, _ => by cases h
  | p :: ps, a :: as, tm, tm', ys, arr, h, ht, hy => by
    simp only [AV.rels] at hy
    obtain ⟨y, zs, rfl, h1, h2⟩ := hy
    simp only [setPs] at h
    obtain ⟨e, g⟩ := setPs_rels (arr := arr.setIfInBounds p y) h (by rw [Array.toList_setIfInBounds]; exact ht.set h1) h2
    exact ⟨by simp [e], by simpa using g⟩
/-- Loops are ones that may be written. -/
def loopsW : List (Nat × Option ABlk) → Bool
  | [] => true
  | (_, none) :: r => loopsW r
  | (_, some b) :: r => (match b.cont with
    | .obj (.loop ..) => b.wr
    | _ => true) && loopsW r
theorem loopsW_look : ∀ {l : List (Nat × Option ABlk)} {k : Nat} {b : ABlk} {st pe tm ps asg body}, loopsW l = true → look l k = some b → b.cont = .obj (.loop st pe tm ps asg body) → b.wr = true
  | [], k, b, _, _, _, _, _, _, _, h, _ => by cases h
  | (l, none) :: r, k, b, _, _, _, _, _, _, ha, h, hc => by
    simp only [loopsW] at ha
    rw [look_cons] at h
    split at h
    · cases h
    · exact loopsW_look ha h hc
  | (l, some b') :: r, k, b, _, _, _, _, _, _, ha, h, hc => by
    simp only [loopsW, Bool.and_eq_true] at ha
    rw [look_cons] at h
    split at h
    · cases h
      rw [hc] at ha
      exact ha.1
    · exact loopsW_look ha.2 h hc
def finY : Out → List Bool → Option (Option Code × MS × List Bool)
  | .left j _ m, bs => some (j, m, bs)
  | _, _ => none
def stN : Option Code → Nat
  | none => 0
  | some _ => 1
/-- What is set ahead of a round. -/
def asgA (P : Program) (E : Env) : Code → List AV → MS → Option (List AV × MS × List Bool)
  | .skip, tm, m => some (tm, m, [])
  | .region _ ops draw, tm, m => regA P E (drawAB P E) ops draw tm m
  | .seq a b, tm, m => match asgA P E a tm m with
    | some (tm1, m1, bs1) => match asgA P E b tm1 m1 with
      | some (tm2, m2, bs2) => some (tm2, m2, bs1 ++ bs2)
      | none => none
    | none => none
  | _, _, _ => none
/-- One round, in place. -/
def yieldE (P : Program) (E : Env) (orc : List Nat := []) : Spec := fun m args => match args with
  | .yld L :: as => match look m.bl L with
    | some ⟨true, false, .obj (.loop 0 none tm ps asg body)⟩ => match setPs tm ps as with
      | some tm1 => match Nat.ble m.nx 1000000000 with
        | true => match asgA P E asg tm1 ⟨upd m.bl L none, m.nx⟩ with
          | some (tm2, m2, bs2) => match loopsW m2.bl with
            | true => match runO P E (drawAB P E) [rndC] finY 1000000 orc [.code body] tm2 m2 [] with
              | some (j, m', bs) => match loopsW m'.bl with
                | true => some (.val (.bool j.isNone), some ⟨upd m'.bl L (some ⟨true, false, .obj (.loop (stN j) j tm ps asg body)⟩), m'.nx⟩, bs2 ++ bs)
                | false => none
              | none => none
            | false => none
          | none => none
        | false => none
      | none => none
    | _ => none
  | _ => none
section
variable {P : Program}
theorem steps_fw {m m' : Machine} (r : Option Nat) (h : Steps P m m') : StepsIn (Machine.fenced P (FW r)) P m m' :=
  (StepsIn.of_steps h).mono fun m _ => by
    intro g _
    exact ⟨(fun h => by cases h), Or.inl trivial, fun _ _ => trivial, fun _ h => by cases h⟩
/-- A block that may be written is written, by no name's leave. -/
theorem MRel.poke {ρ : Rho} {m : MS} {w w' : World} {L : Nat} {b : ABlk} (h : MRel ρ m w) (hl : look m.bl L = some b) (hw : b.wr = true) (hsz : w'.heap.size = w.heap.size) (hk : ∀ g, g ≠ (ρ L).b → w'.heap[g]? = w.heap[g]?) : MRel ρ ⟨upd m.bl L none, m.nx⟩ w' := by
  have key : ∀ l b', look (upd m.bl L none) l = some b' → l ≠ L ∧ look m.bl l = some b' := fun l b' h => by
    rw [look_upd] at h
    split at h
    · cases h
    · rename_i e; exact ⟨Ne.symm e, h⟩
  refine ⟨fun l b' hl' => ?_, (fun l1 b1 l2 b2 h1 h2 => h.apart l1 b1 l2 b2 (key _ _ h1).2 (key _ _ h2).2), fun l1 b1 l2 b2 h1 h2 => h.deep l1 b1 l2 b2 (key _ _ h1).2 (key _ _ h2).2⟩
  obtain ⟨hne, hl'⟩ := key l b' hl'
  obtain ⟨g1, g2⟩ := h.blk l b' hl'
  refine ⟨g1, ?_⟩
  by_cases hv : b'.void
  · exact ABlk.ok.any hv _
  · exact g2.ext (fun _ _ => rfl) (Nat.le_refl _) (by rw [hsz]; exact Nat.le_refl _) (hk _ (h.apart L b l b' hl hl' hw hne hv)) fun hn' g hg => hk g (fun e' => by rw [e', h.deep L b l b' hl hl' hw hn'] at hg; cases hg)
/-- What is there at all is no loop. -/
theorem not_at {ρ : Rho} {m : MS} {w : World} {l g : Nat} {b : ABlk} {lp : Loop} (h : MRel ρ m w) (hl : look m.bl l = some b) (hg : w.heap[g]? = some (.loop lp)) (hw : b.wr = true → (ρ l).b ≠ g) (hlp : ∀ st pe tm ps asg body, b.cont = .obj (.loop st pe tm ps asg body) → b.wr = true) (hnv : ¬ b.void) : (ρ l).b ≠ g := fun e => by
  obtain ⟨_, hok⟩ := h.blk l b hl
  cases hwr : b.wr with
  | true => exact hw hwr e
  | false =>
    have hop : b.op = false := by
      cases ho : b.op with
      | false => rfl
      | true => have := (hok.room ho).1; rw [hwr] at this; cases this
    have hno : ∀ q, b.cont = .obj q → q.hollow = true := fun q hq => by
      cases q with
      | glob g' vs =>
        obtain ⟨h1, _, c, t, fz, h2, _⟩ := hok.obj _ hq
        rw [← h1, e, hg] at h2
        cases h2
      | loop st pe tm ps asg body => have := hlp _ _ _ _ _ _ hq; rw [hwr] at this; cases this
      | typed t0 l0 =>
        have h2 := (hok.obj _ hq).2
        rw [e] at h2
        simp only [World.shape?, hg] at h2
        cases h2
      | trow t0 s0 =>
        obtain ⟨_, cur, h2, _⟩ := hok.obj _ hq
        rw [e, hg] at h2
        cases h2
      | mpo fk fv es =>
        have h2 := hok.obj _ hq
        simp only [QObj.ok] at h2
        rw [e, hg] at h2
        cases h2
      | mit tm n0 seen =>
        obtain ⟨_, bm, h2, _⟩ := hok.obj _ hq
        rw [e, hg] at h2
        cases h2
      | nest cs fo =>
        cases hb : nestB cs with
        | false => simp [QObj.hollow, hb]
        | true =>
          obtain ⟨_, h1⟩ := (hok.obj _ hq) hb
          obtain ⟨c, nc, hc, hl⟩ := nestB_some hb
          obtain ⟨A, cp, h2, _⟩ := h1 c nc 0 hc hl
          rw [e] at h2
          simp only [World.cell?, hg] at h2
          cases h2
    refine hnv ⟨hwr, hop, hno, fun r c a ha => ?_⟩
    obtain ⟨_, x, hx, _⟩ := hok.rel r c a ha
    have hx : w.cell? ⟨(ρ l).b, (ρ l).o + (r * b.cont.width + c), none⟩ = some x := hx
    rw [e] at hx
    simp only [World.cell?, hg] at hx
    cases hx
theorem asgA_goes {E : Env} (hE : ESound P E) (hM : MixedOk P) {B : Nat} : ∀ (asg : Code) {tm tm' : List AV} {m m' : MS} {bs : List Bool} {k : List Item} (h : asgA P E asg tm m = some (tm', m', bs)) (hbs : bs.all id = true), Goes P B ⟨.code asg :: k, tm, m⟩ ⟨k, tm', m'⟩
  | .skip, tm, tm', m, m', bs, k, h, hbs => by
    simp only [asgA] at h
    cases h; exact Goes.step fun b cs a w ρ _ => .one stepR_skip
  | .region _ ops draw, tm, tm', m, m', bs, k, h, hbs => by
    simp only [asgA] at h
    exact regA_goes hE (drawAB_ok hE hM) h hbs
  | .seq a b, tm, tm', m, m', bs, k, h, hbs => by
    simp only [asgA] at h
    split at h
    · rename_i tm1 m1 bs1 h1
      split at h
      · rename_i tm2 m2 bs2 h2
        cases h
        obtain ⟨b1, b2⟩ := all_app hbs
        exact Goes.trans (Goes.step fun b cs a w ρ _ => .one stepR_seq) (Goes.trans (asgA_goes hE hM _ h1 b1) (asgA_goes hE hM _ h2 b2))
      · cases h
    · cases h
  | .ret, _, _, _, _, _, _, h, _ => by simp [asgA] at h
  | .label _, _, _, _, _, _, _, h, _ => by simp [asgA] at h
  | .cond .., _, _, _, _, _, _, h, _ => by simp [asgA] at h
  | .block .., _, _, _, _, _, _, h, _ => by simp [asgA] at h
  | .loop _, _, _, _, _, _, _, h, _ => by simp [asgA] at h
  | .scope _, _, _, _, _, _, _, h, _ => by simp [asgA] at h
  | .exit _, _, _, _, _, _, _, h, _ => by simp [asgA] at h
  | .rangeFunc .., _, _, _, _, _, _, h, _ => by simp [asgA] at h
/-- No name is where something is written. -/
theorem MRel.aside {ρ : Rho} {m : MS} {w w' : World} {g : Nat} (h : MRel ρ m w) (hout : ∀ l b, look m.bl l = some b → ¬ b.void → (ρ l).b ≠ g) {lp : Loop} (hgl : w.heap[g]? = some (.loop lp)) (hsz : w'.heap.size = w.heap.size) (hk : ∀ h, h ≠ g → w'.heap[h]? = w.heap[h]?) : MRel ρ m w' :=
  ⟨fun l b hl => ⟨(h.blk l b hl).1, by
    by_cases hv : b.void
    · exact ABlk.ok.any hv _
    · exact (h.blk l b hl).2.ext (fun _ _ => rfl) (Nat.le_refl _) (by rw [hsz]; exact Nat.le_refl _) (hk _ (hout l b hl hv)) fun hn' g' hg' => hk g' (fun e' => by
        obtain ⟨cur, e, fz, h1⟩ := (h.blk l b hl).2.tcell hn' g' hg'
        rw [e', hgl] at h1; cases h1)⟩, h.apart, h.deep⟩
theorem yieldE_ok {E : Env} {orc : List Nat} (hE : ESound P E) (hM : MixedOk P) {m : MS} {args : List AV} {v : AV} {mo : Option MS} {bs : List Bool} (h : yieldE P E orc m args = some (v, mo, bs)) (hbs : bs.all id = true) : YSound P m args v (mo.getD m) := by
  intro ρ w xs hm hx
  unfold yieldE at h
  split at h <;> try cases h
  rename_i L as
  split at h <;> try cases h
  rename_i tm ps asg body hL
  split at h <;> try cases h
  rename_i tm1 hset
  split at h <;> try cases h
  rename_i hnx
  split at h <;> try cases h
  rename_i tm2 mA bsA hasg
  split at h <;> try cases h
  rename_i hlwA
  split at h <;> try cases h
  rename_i j m' bs' hrun
  split at h <;> try cases h
  rename_i hlw
  obtain ⟨hbsA, hbs⟩ := all_app hbs
  simp only [AV.rels, AV.rel] at hx
  obtain ⟨_, ys, rfl, ⟨hLn, rfl⟩, hys⟩ := hx
  obtain ⟨_, hok⟩ := hm.blk L _ hL
  obtain ⟨lp, hg, hst, hpe, htm, hps, has, hbd⟩ := hok.obj _ rfl
  have hlt : (ρ L).b < w.heap.size := (Array.getElem?_eq_some_iff.1 hg).1
  obtain ⟨hlen, hrel⟩ := setPs_rels (arr := lp.tmps) hset htm hys
  refine ⟨(ρ L).b, ys, rfl, fun r n => ?_⟩
  have hy := run_yield (P := P) (args := ys.toArray) hg (by rw [hps]; simp [hlen])
  refine ⟨_, _, _, _, _, hy, trivial, fun c cs _ => ?_⟩
  let b : Frame := { (default : Frame) with fn := lp.fn, kind := .normal, roundOf := some (ρ L).b }
  let arr := (lp.params.zip ys.toArray).foldl (fun tmps (p : Tmp × Value) => tmps.setIfInBounds p.1 p.2) lp.tmps
  have hb0 : Frame.round (ρ L).b lp.fn arr lp.assign lp.body .normal = b.atR { tmps := arr, defers := [] } [.code lp.assign, .beginRound, .code lp.body] := by
    simp [Frame.round, Frame.atR, b]
  have harr : AV.rels ρ m.nx tm1 arr.toList := by
    have e : arr = ((ps.zip ys).foldl (fun (t : Array Value) p => t.setIfInBounds p.1 p.2) lp.tmps) := by
      show (lp.params.zip ys.toArray).foldl _ lp.tmps = _
      rw [hps]
      simp
    rw [e]; exact hrel
  -- what is set ahead
  have hlt0 : (ρ L).b < w.heap.size := hlt
  have hm0 : MRel ρ ⟨upd m.bl L none, m.nx⟩ w := hm.poke hL rfl rfl (fun _ _ => rfl)
  have hnw0 : ¬ Wr ρ ⟨upd m.bl L none, m.nx⟩ (ρ L).b := fun ⟨l', b', h1, h3, h4⟩ => by
    simp only [look_upd] at h1
    split at h1
    · cases h1
    · rename_i e; exact hm.apart L _ l' b' hL h1 rfl (Ne.symm e) (wr_not_void h3) h4
  obtain ⟨ρA, aA, wA, stA, htA, hdA, hmA, mvA⟩ := asgA_goes (B := m.nx) (k := [.beginRound, .code lp.body]) hE hM _ hasg hbsA b (c :: cs) ρ { tmps := arr, defers := [] } w harr hm0 (Nat.le_refl _)
  have hgA : wA.heap[(ρ L).b]? = some (.loop lp) := by rw [mvA.keep _ hlt hnw0]; exact hg
  have hltA : (ρ L).b < wA.heap.size := (Array.getElem?_eq_some_iff.1 hgA).1
  have hρA : ρA L = ρ L := mvA.ext L hLn
  have hnwA : ¬ Wr ρA mA (ρ L).b := fun h => by
    rcases mvA.fresh _ h with h | h
    · exact hnw0 h
    · omega
  have houtA : ∀ l b', look mA.bl l = some b' → ¬ b'.void → (ρA l).b ≠ (ρ L).b := fun l b' hl' hnv =>
    not_at hmA hl' hgA (fun hw e => hnwA ⟨l, b', hl', hw, e⟩) (fun _ _ _ _ _ _ hc => loopsW_look hlwA hl' hc) hnv
  -- the loop is busy
  obtain ⟨w1, hw1⟩ : ∃ w1, w1 = wA.putObj (ρ L).b (.loop { lp with state := .busy }) := ⟨_, rfl⟩
  have hbr := run_beginRound (P := P) hgA (by rw [hst]; rfl)
  rw [← hw1] at hbr
  have hs1 : w1.heap.size = wA.heap.size := by rw [hw1]; simp
  have ho1 : ∀ g, g ≠ (ρ L).b → w1.heap[g]? = wA.heap[g]? := fun g hne => by rw [hw1]; exact World.putObj_heap_other hne
  have hg1 : w1.heap[(ρ L).b]? = some (.loop { lp with state := .busy }) := by rw [hw1]; exact World.putObj_heap_same hltA
  have hm1 : MRel ρA mA w1 := hmA.aside houtA hgA hs1 ho1
  obtain ⟨o, bs1, h0, _, h2⟩ := runO_ok (B := m.nx) hE (drawAB_ok hE hM) (by simp only [cutsB, rndC, List.all_cons, List.all_nil, Bool.and_true]; exact hnx) _ _ _ _ _ _ _ hrun
  cases o with
  | ret t1 m1 => cases h0
  | head td t1 m1 => cases h0
  | left j1 t1 m1 =>
  simp only [finY, Option.some.injEq, Prod.mk.injEq] at h0
  obtain ⟨rfl, rfl, rfl⟩ := h0
  obtain ⟨ρ', a2, w2, todo, st, hleft, ht2, hd2, hm2, mv1⟩ := h2 hbs b (c :: cs) ρA aA w1 htA hm1 mvA.nx
  have hg2 : w2.heap[(ρ L).b]? = some (.loop { lp with state := .busy }) := by rw [mv1.keep _ (by rw [hs1]; exact hltA) hnwA]; exact hg1
  have hlt2 : (ρ L).b < w2.heap.size := (Array.getElem?_eq_some_iff.1 hg2).1
  have her := run_endRound (P := P) j1 hg2
  obtain ⟨w3, hw3⟩ : ∃ w3, w3 = w2.putObj (ρ L).b (.loop { lp with state := if j1.isNone then .ready else .done, pending := j1 }) := ⟨_, rfl⟩
  have her : (Instr.endRound (ρ L).b j1).run P w2 = .ok (.bool j1.isNone) w3 := by rw [hw3]; exact her
  have hs3 : w3.heap.size = w2.heap.size := by rw [hw3]; simp
  have ho3 : ∀ g, g ≠ (ρ L).b → w3.heap[g]? = w2.heap[g]? := fun g hne => by rw [hw3]; exact World.putObj_heap_other hne
  have hg3 : w3.heap[(ρ L).b]? = some (.loop { lp with state := if j1.isNone then .ready else .done, pending := j1 }) := by rw [hw3]; exact World.putObj_heap_same hlt2
  have hρL : ρ' L = ρ L := (mv1.ext L hLn).trans hρA
  have hext : ∀ l, l < m.nx → ρ' l = ρ l := fun l hl => (mv1.ext l hl).trans (mvA.ext l hl)
  have hWr2 : ∀ g, Wr ρ' m1 g → Wr ρ ⟨upd m.bl L none, m.nx⟩ g ∨ w.heap.size ≤ g := fun g hgw => by
    rcases mv1.fresh g hgw with h | h
    · exact mvA.fresh g h
    · have := mvA.size
      exact .inr (by omega)
  have hout : ∀ l b', look m1.bl l = some b' → ¬ b'.void → (ρ' l).b ≠ (ρ L).b := fun l b' hl' hnv =>
    not_at hm2 hl' hg2 (fun hw e => by
      rcases hWr2 (ρ L).b ⟨l, b', hl', hw, e⟩ with h | h
      · exact hnw0 h
      · omega) (fun _ _ _ _ _ _ hc => loopsW_look hlw hl' hc) hnv
  have key : ∀ l b', look (upd m1.bl L (some (⟨true, false, .obj (.loop (stN j1) j1 tm ps asg body)⟩ : ABlk))) l = some b' → (l = L ∧ b' = ⟨true, false, .obj (.loop (stN j1) j1 tm ps asg body)⟩) ∨ (l ≠ L ∧ look m1.bl l = some b') := fun l b' h => by
    rw [look_upd] at h
    split at h
    · rename_i e; cases h; exact .inl ⟨e.symm, rfl⟩
    · rename_i e; exact .inr ⟨Ne.symm e, h⟩
  refine ⟨.returned (.bool j1.isNone), w3, ⟨.bool j1.isNone, rfl, ρ', by simp only [AV.rel], ⟨fun l b' hl' => ?_, fun l1 b1 l2 b2 e1 e2 hw hne hnv => ?_, fun l1 b1 l2 b2 e1 e2 hw hn2 => ?_⟩, ⟨hext, mv1.nx, ?_, ?_, ?_, ?_, fun g hg' hn' => ?_, fun g ⟨l', b', e1, e2, e3⟩ => ?_⟩⟩, ?_⟩
  · rcases key l b' hl' with ⟨rfl, rfl⟩ | ⟨hne, hl'⟩
    · refine ⟨Nat.lt_of_lt_of_le hLn mv1.nx, ?_⟩
      rw [hρL]
      refine ⟨.inl (by rw [hs3]; exact hlt2), fun r c a ha => by cases c <;> (simp only [Cont.at] at ha; cases ha), fun _ j => by simp only [World.frozen?, hg3], (fun h => by cases h), fun q hq => ?_⟩
      cases hq
      refine ⟨_, hg3, ?_, rfl, AV.rels.ext hext mv1.nx _ _ htm, hps, has, hbd⟩
      cases j1 <;> rfl
    · obtain ⟨g1, g2⟩ := hm2.blk l b' hl'
      refine ⟨g1, ?_⟩
      by_cases hv : b'.void
      · exact ABlk.ok.any hv _
      · exact g2.ext (fun _ _ => rfl) (Nat.le_refl _) (by rw [hs3]; exact Nat.le_refl _) (ho3 _ (hout l b' hl' hv)) fun hn' g' hg' => ho3 g' (fun e' => by
          obtain ⟨cur, e, fz, h1⟩ := g2.tcell hn' g' hg'
          rw [e', hg2] at h1; cases h1)
  · rcases key l1 b1 e1 with ⟨rfl, rfl⟩ | ⟨hn1, f1⟩
    · rcases key l2 b2 e2 with ⟨rfl, _⟩ | ⟨hn2, f2⟩
      · exact absurd rfl hne
      · rw [hρL]; exact hout l2 b2 f2 hnv
    · rcases key l2 b2 e2 with ⟨rfl, rfl⟩ | ⟨hn2, f2⟩
      · rw [hρL]; exact Ne.symm (hout l1 b1 f1 (wr_not_void hw))
      · exact hm2.apart l1 b1 l2 b2 f1 f2 hw hne hnv
  · rcases key l2 b2 e2 with ⟨rfl, rfl⟩ | ⟨hn2', f2⟩
    · cases hn2
    · rcases key l1 b1 e1 with ⟨rfl, rfl⟩ | ⟨hn1, f1⟩
      · rw [hρL]
        cases hbt : (ρ' l2).tg.testBit (ρ l1).b with
        | false => rfl
        | true =>
          obtain ⟨cur, e, fz, h1⟩ := (hm2.blk l2 b2 f2).2.tcell hn2 _ hbt
          rw [hg2] at h1; cases h1
      · exact hm2.deep l1 b1 l2 b2 f1 f2 hw hn2
  · rw [hw3]; exact mv1.os.trans (by rw [hw1]; exact mvA.os)
  · rw [hw3]; exact mv1.tape.trans (by rw [hw1]; exact mvA.tape)
  · rw [hw3]; exact OutLe.trans mv1.output (by rw [hw1]; exact mvA.output)
  · rw [hs3]; have h1 := mv1.size; have h2 := mvA.size; omega
  · have hne : g ≠ (ρ L).b := fun e => hn' ⟨L, _, hL, rfl, e.symm⟩
    have hn0 : ¬ Wr ρ ⟨upd m.bl L none, m.nx⟩ g := fun ⟨l', b', e1, e2, e3⟩ => hn' ⟨l', b', by
      simp only [look_upd] at e1
      split at e1
      · cases e1
      · exact e1, e2, e3⟩
    have hsA := mvA.size
    rw [ho3 g hne, mv1.keep g (by omega) (fun h => by
      rcases mvA.fresh _ h with h | h
      · exact hn0 h
      · omega), ho1 g hne, mvA.keep g hg' hn0]
  · rcases key l' b' e1 with ⟨rfl, rfl⟩ | ⟨hne, e1⟩
    · rw [hρL] at e3
      exact .inl ⟨_, _, hL, rfl, e3⟩
    · rcases hWr2 g ⟨l', b', e1, e2, e3⟩ with ⟨l2, b2, f1, f2, f3⟩ | h
      · refine .inl ⟨l2, b2, ?_, f2, f3⟩
        simp only [look_upd] at f1
        split at f1
        · cases f1
        · exact f1
      · exact .inr h
  · refine steps_fw r ?_
    show Steps P (lone (Frame.round (ρ L).b lp.fn arr lp.assign lp.body .normal) (c :: cs) w) _
    rw [hb0, has]
    refine Steps.trans stA (Steps.trans (.one (stepR_beginRound rfl hbr)) ?_)
    rw [hbd]
    refine Steps.trans st ?_
    cases j1 with
    | none =>
      have : todo = [] := hleft
      subst this
      exact .one (stepR_round_end rfl rfl her)
    | some cj =>
      cases cj <;> try exact hleft.elim
      case ret => obtain ⟨k, rfl⟩ := hleft; exact .one (stepR_round_ret rfl rfl her)
      case exit id => obtain ⟨k, rfl, hx⟩ := hleft; exact .one (stepR_round_exit rfl rfl hx her)
/-- Functions' contracts, and one's rounds. -/
def envY (y : Spec) (l : List (FuncId × Spec)) : Env := fun f m args => match f with
  | some f => envOf l (some f) m args
  | none => y m args
theorem envY_okE {l : List (FuncId × Spec)} {E : Env} {orc : List Nat} (hE : ESound P (envOf l)) (hE' : ESound P E) (hM : MixedOk P) : ESound P (envY (yieldE P E orc) l) :=
  ⟨fun f m args v mo bs h hb => hE.fn f m args v mo bs h hb, fun m args v mo bs h hb => yieldE_ok hE' hM h hb⟩
abbrev yieldS (P : Program) (l : List (FuncId × Spec)) (orc : List Nat := []) : Spec := yieldE P (envOf l) orc
theorem envY_ok {l l' : List (FuncId × Spec)} {orc : List Nat} (hE : ESound P (envOf l)) (hE' : ESound P (envOf l')) (hM : MixedOk P) : ESound P (envY (yieldS P l' orc) l) := envY_okE hE hE' hM
theorem results_tmps {f : Func} {tmps : Array Value} {x : Value} {w w' : World} (hf : (f.results.toList.all fun r => match r with | .tmp _ => true | _ => false) = true) (h : (results f tmps).run P w = .ok x w) : (results f tmps).run P w' = .ok x w' := by
  have hm : ∀ (l : List ResultVar), (l.all fun r => match r with | .tmp _ => true | _ => false) = true → ∃ vs : List Value, ∀ w, (l.mapM fun | .tmp t => pure (tmps.getD t undef) | .cell c t => do loadVar t (← asAddr (tmps.getD c undef)) : Sem (List Value)).run P w = .ok vs w := fun l => by
    induction l with
    | nil => intro _; exact ⟨[], fun w => by simp⟩
    | cons r l ih =>
      intro hl
      simp only [List.all_cons, Bool.and_eq_true] at hl
      obtain ⟨vs, hv⟩ := ih hl.2
      cases r with
      | tmp t => exact ⟨tmps.getD t undef :: vs, fun w => by simp only [List.mapM_cons, Sem.run_bind, Sem.run_pure, Result.andThen_ok, hv]⟩
      | cell a t => simp at hl
  obtain ⟨vs, hv⟩ := hm _ hf
  have hr : ∀ w, (results f tmps).run P w = .ok (if h : vs.toArray.size = 1 then vs.toArray[0] else .tuple vs.toArray) w := fun w => by
    have hrun : (f.results.mapM fun | .tmp t => pure (tmps.getD t undef) | .cell c t => do loadVar t (← asAddr (tmps.getD c undef)) : Sem (Array Value)).run P w = .ok vs.toArray w := by
      rw [Array.mapM_eq_mapM_toList]
      simp only [Sem.run_map, hv, Result.andThen_ok]
    unfold results
    simp only [Sem.run_bind]
    exact congrArg (fun r : Result (Array Value) => r.andThen fun a w' => (pure (if h : a.size = 1 then a[0] else Value.tuple a) : Sem Value).run P w') hrun
  rw [hr] at h ⊢
  cases h
  rfl
/-- Behind a loop the calls put off are taken over: what is known of cells stays. -/
theorem MRel.take {ρ : Rho} {m : MS} {w : World} {D : Nat} {ds : Option (List Deferred)} (h : MRel ρ m w) (hD : w.heap[D]? = some (.deferred ds)) : MRel ρ m (w.putObj D (.deferred none)) := by
  have hlt : D < w.heap.size := (Array.getElem?_eq_some_iff.1 hD).1
  have ho : ∀ g, g ≠ D → (w.putObj D (.deferred none)).heap[g]? = w.heap[g]? := fun g hne => World.putObj_heap_other hne
  have hs : (w.putObj D (.deferred none)).heap[D]? = some (.deferred none) := World.putObj_heap_same hlt
  refine ⟨fun l b hl => ?_, h.apart, h.deep⟩
  obtain ⟨h1, h2⟩ := h.blk l b hl
  refine ⟨h1, ?_⟩
  by_cases e : (ρ l).b = D
  · have hcell : ∀ j x, w.cell? ⟨(ρ l).b, j, none⟩ ≠ some x := fun j x hx => by
      rw [e] at hx
      simp only [World.cell?, hD] at hx
      cases hx
    refine ⟨h2.lt.imp (fun h => by simpa using h) id, fun r c a ha => ?_, fun _ j => ?_, fun hop => ?_, fun q hq => ?_⟩
    · obtain ⟨_, x, hx, _⟩ := h2.rel r c a ha
      exact absurd hx (hcell _ _)
    · rw [e]
      simp only [World.frozen?, hs]
    · obtain ⟨_, _, cur, ty, hc, _⟩ := h2.room hop
      rw [e, hD] at hc
      cases hc
    · have := h2.obj q hq
      cases q with
      | glob g vs =>
        obtain ⟨e1, _, c, t, fz, hc, _⟩ := this
        rw [← e1, e, hD] at hc
        cases hc
      | loop st pe tm ps asg body =>
        obtain ⟨lp, hc, _⟩ := this
        rw [e, hD] at hc
        cases hc
      | typed t0 l0 =>
        have h2 := this.2
        rw [e] at h2
        simp only [World.shape?, hD] at h2
        cases h2
      | trow t0 s0 =>
        obtain ⟨_, cur, h2, _⟩ := this
        rw [e, hD] at h2
        cases h2
      | mpo fk fv es =>
        simp only [QObj.ok] at this
        rw [e, hD] at this
        cases this
      | mit tm n0 seen =>
        obtain ⟨_, bm, h2, _⟩ := this
        rw [e, hD] at h2
        cases h2
      | nest cs0 fo0 =>
        intro hne
        have this := this hne
        refine ⟨fun g hg => ?_, fun c nc j hc hj => ?_⟩
        · obtain ⟨cur, e1, fz, h3⟩ := this.1 g hg
          exact ⟨cur, e1, fz, by rw [ho g (fun e2 => by rw [e2, hD] at h3; cases h3)]; exact h3⟩
        · obtain ⟨A, cp, h3, _⟩ := this.2 c nc j hc hj
          exact absurd h3 (hcell _ _)
  · exact h2.ext (fun _ _ => rfl) (Nat.le_refl _) (by simp) (ho _ e) fun hn' g hg => ho g (fun e2 => by
      obtain ⟨cur, e1, fz, h3⟩ := h2.tcell hn' g hg
      rw [e2, hD] at h3; cases h3)
/-- The same, where the results are still told when the calls put off have been taken over. -/
def GivesK (P : Program) (f : Func) (B : Nat) (s : St) (v : AV) (m' : MS) : Prop := ∀ (b : Frame) (cs : List Frame) (ρ : Rho) (a : Act) (w : World), b.roundOf = none → AV.rels ρ s.m.nx s.tm a.tmps.toList → MRel ρ s.m w → B ≤ s.m.nx →
  ∃ ρ' a' w' todo, Steps P (lone (b.atR a s.todo) cs w) (lone { b.atR a' todo with mode := .returning } cs w') ∧ a'.defers = a.defers ∧ (∀ D ds, w'.heap[D]? = some (.deferred ds) → ∃ x, (results f a'.tmps).run P (w'.putObj D (.deferred none)) = .ok x (w'.putObj D (.deferred none)) ∧ AV.rel ρ' m'.nx v x) ∧ MRel ρ' m' w' ∧ Moves B ρ ρ' s.m m' w w'
theorem Gives_.keepK {f : Func} {B : Nat} {s : St} {v : AV} {m' : MS} (hres : (f.results.toList.all fun r => match r with | .tmp _ => true | _ => false) = true) (h : Gives_ P f B s v m') : GivesK P f B s v m' := fun b cs ρ a w hro ht hm hB => by
  obtain ⟨ρ', a', w', todo, x, st, hd, hx, hr, hm', mv⟩ := h b cs ρ a w hro ht hm hB
  refine ⟨ρ', a', w', todo, st, hd, fun D ds _ => ⟨x, ?_, hr⟩, hm', mv⟩
  have := results_tmps (w' := w'.putObj D (.deferred none)) hres hx
  exact this
theorem Goes.givesK {f : Func} {B : Nat} {s s' : St} {v : AV} {m' : MS} (h : Goes P B s s') (h' : GivesK P f B s' v m') : GivesK P f B s v m' := fun b cs ρ a w hro ht hm hB => by
  obtain ⟨ρ1, a1, w1, st1, ht1, hd1, hm1, mv1⟩ := h b cs ρ a w ht hm hB
  obtain ⟨ρ2, a2, w2, todo, st2, hd2, hx, hm2, mv2⟩ := h' b cs ρ1 a1 w1 hro ht1 hm1 mv1.nx
  exact ⟨ρ2, a2, w2, todo, st1.trans st2, hd2.trans hd1, hx, hm2, mv1.trans mv2⟩
theorem from_retK {E : Env} {D : Array Oper → List AV → MS → Option (List AV × MS × List Bool)} {cuts : List Cut} {f : Func} {ns : List Nat} {top : Nat} {todo : List Item} {tm : List AV} {m m' : MS} {v : AV} {B : Nat} (hE : ESound P E) (hD : DSound P D) (hC : cutsB B cuts = true) (h : from_ P E D f cuts ns top todo tm m = some (.ret v m' true)) : GivesK P f B ⟨todo, tm, m⟩ v m' := by
  obtain ⟨o, bs, h0, _, h2⟩ := run_ok (B := B) hE hD hC _ _ _ _ _ _ h
  cases o with
  | ret tm1 m1 =>
    simp only [finA] at h0
    split at h0
    · rename_i hn
      have hn := Nat.le_of_ble_eq_true hn
      split at h0
      · rename_i v1 bs1 hr
        simp only [Option.some.injEq, Fin_.ret.injEq] at h0
        obtain ⟨rfl, rfl, h3⟩ := h0
        obtain ⟨b1, b2⟩ := all_app (conj_all h3)
        intro b cs ρ a w hro ht hm hB
        obtain ⟨ρ', a', w', todo', st, ht', hd', hm', mv⟩ := h2 b1 b cs ρ a w hro ht hm hB
        refine ⟨ρ', a', w', todo', st, hd', fun D ds hDD => ?_, hm'.keep ns top hn, mv.kept ns top hn⟩
        obtain ⟨x, hx1, hx2⟩ := resA_ok (P := P) hr ht' (hm'.take hDD) b2
        exact ⟨x, hx1, hx2.up hn⟩
      · cases h0
    · cases h0
  | head todo1 tm1 m1 => simp only [finA] at h0; cases h0
  | left j1 tm1 m1 => cases h0
def jumpI (j : Option Code) (k : List Item) : List Item := match j with
  | none => k
  | some c => .code c :: k
set_option maxHeartbeats 1000000 in
/-- A loop over a function, whose text is known. -/
theorem range_givesK {B : Nat} {f fn : Func} {c body asg : Code} {g : Operand} {ps : Array Tmp} {k : List Item} {tm tm2 : List AV} {m m2 m3 : MS} {gf gi : FuncId} {first cap : List AV} {u v : AV} {j : Option Code} {st : Nat} {ps2 : List Nat} {asg2 body2 : Code}
    (hg : evA tm g = .clo gf first cap) (hgf : ∀ xs w, (callFunc gf xs).run P w = .ok (.enter gi xs) w) (hff : P.funcs[gi]? = some fn) (hfb : fn.body = some c)
    (hit : Gives_ P fn (m.nx + 1) (enterA fn c (first ++ [.yld m.nx] ++ cap) ⟨(m.nx, some ⟨true, false, .obj (.loop 0 none tm ps.toList asg body)⟩) :: m.bl, m.nx + 1⟩) u m2)
    (hl2 : look m2.bl m.nx = some ⟨true, false, .obj (.loop st j tm2 ps2 asg2 body2)⟩) (hB : B ≤ m.nx)
    (hafter : GivesK P f B ⟨jumpI j k, tm, ⟨upd m2.bl m.nx none, m2.nx⟩⟩ v m3) : Gives_ P f B ⟨.code (.rangeFunc g ps asg body) :: k, tm, m⟩ v m3 := by
  intro b cs ρ a w hro ht hm _
  have ht : AV.rels ρ m.nx tm a.tmps.toList := ht
  have hm : MRel ρ m w := hm
  -- the loop's record, and the block for calls that are put off
  obtain ⟨lp, hlp⟩ : ∃ lp : Loop, lp = { state := .ready, pending := none, fn := b.fn, tmps := a.tmps, params := ps, assign := asg, body, defers := w.heap.size } := ⟨_, rfl⟩
  obtain ⟨w1, hw1⟩ : ∃ w1, w1 = (w.alloc (.deferred (some []))).alloc (.loop lp) := ⟨_, rfl⟩
  have he : (Instr.enterLoop b.fn a.tmps ps asg body b.roundOf).run P w = .ok (w.heap.size + 1, [{ target := .collected w.heap.size, args := #[] }]) w1 := by
    rw [hro, hw1, hlp]; exact run_enterLoop_outer _ _ _ _ _
  have hs1 : w1.heap.size = w.heap.size + 1 + 1 := by rw [hw1]; simp
  have hL1 : w1.heap[w.heap.size + 1]? = some (.loop lp) := by
    rw [hw1]; have := World.alloc_heap_new (w.alloc (.deferred (some []))) (.loop lp); rwa [World.size_alloc] at this
  have hD1 : w1.heap[w.heap.size]? = some (.deferred (some [])) := by
    rw [hw1]; exact (Below.heap_alloc _ _ _ (by simp)).trans (World.alloc_heap_new w _)
  have ho1 : ∀ h, h < w.heap.size → w1.heap[h]? = w.heap[h]? := fun h hh => by
    rw [hw1]; exact (Below.heap_alloc _ _ _ (by simp; omega)).trans (Below.heap_alloc _ _ _ hh)
  obtain ⟨m1, hm1e⟩ : ∃ m1 : MS, m1 = ⟨(m.nx, some ⟨true, false, .obj (.loop 0 none tm ps.toList asg body)⟩) :: m.bl, m.nx + 1⟩ := ⟨_, rfl⟩
  rw [← hm1e] at hit
  have hnx1 : m1.nx = m.nx + 1 := by rw [hm1e]
  let ρ1 : Rho := ρ.new m.nx ⟨w.heap.size + 1, 0, 0, 0⟩
  have hext : ∀ l, l < m.nx → ρ1 l = ρ l := fun l hl => by simp only [ρ1, Rho.new]; rw [if_neg (by omega)]
  have hself : ρ1 m.nx = ⟨w.heap.size + 1, 0, 0, 0⟩ := by simp [ρ1, Rho.new]
  have key : ∀ l b', look m1.bl l = some b' → (l = m.nx ∧ b' = ⟨true, false, .obj (.loop 0 none tm ps.toList asg body)⟩) ∨ (l < m.nx ∧ look m.bl l = some b') := fun l b' h => by
    rw [hm1e, look_cons] at h
    split at h
    · rename_i e; cases h; exact .inl ⟨e.symm, rfl⟩
    · exact .inr ⟨(hm.blk l b' h).1, h⟩
  have hm1 : MRel ρ1 m1 w1 := by
    refine ⟨fun l b' hl => ?_, fun l1 b1 l2 b2 e1 e2 hw hne hnv => ?_, fun l1 b1 l2 b2 e1 e2 hw hn2 => by
      rcases key l2 b2 e2 with ⟨rfl, rfl⟩ | ⟨hlt2, e2⟩
      · cases hn2
      · rw [hext l2 hlt2]
        have g2 := (hm.blk l2 b2 e2).2
        rcases key l1 b1 e1 with ⟨rfl, rfl⟩ | ⟨hlt1, e1⟩
        · rw [hself]
          cases hbt : (ρ l2).tg.testBit (w.heap.size + 1) with
          | false => rfl
          | true => have := g2.tlt hn2 _ hbt; omega
        · rw [hext l1 hlt1]
          exact hm.deep l1 b1 l2 b2 e1 e2 hw hn2⟩
    · rcases key l b' hl with ⟨rfl, rfl⟩ | ⟨hlt, hl⟩
      · refine ⟨by omega, ?_⟩
        rw [hself]
        refine ⟨.inl (by simp only [hs1]; omega), fun r c a ha => by cases c <;> (simp only [Cont.at] at ha; cases ha), fun _ j => by simp only [World.frozen?, hL1], (fun h => by cases h), fun q hq => ?_⟩
        cases hq
        exact ⟨lp, hL1, by rw [hlp]; rfl, by rw [hlp], by rw [hlp]; exact AV.rels.ext (nx := m.nx) hext (by omega) _ _ ht, by rw [hlp], by rw [hlp], by rw [hlp]⟩
      · refine ⟨by omega, ?_⟩
        rw [hext l hlt]
        have g2 := (hm.blk l b' hl).2
        rcases g2.lt with hb | hv
        · exact g2.ext hext (by omega) (by omega) (ho1 _ hb) fun hn' g hg => ho1 g (g2.tlt hn' g hg)
        · exact ABlk.ok.any hv _
    · rcases key l1 b1 e1 with ⟨rfl, rfl⟩ | ⟨hlt1, e1⟩
      · rcases key l2 b2 e2 with ⟨rfl, _⟩ | ⟨hlt2, e2⟩
        · exact absurd rfl hne
        · rw [hself, hext l2 hlt2]
          have := (hm.blk l2 b2 e2).2.lt.resolve_right hnv
          show (ρ l2).b ≠ w.heap.size + 1
          omega
      · have h1 := (hm.blk l1 b1 e1).2.lt.resolve_right (wr_not_void hw)
        rcases key l2 b2 e2 with ⟨rfl, rfl⟩ | ⟨hlt2, e2⟩
        · rw [hself, hext l1 hlt1]
          show w.heap.size + 1 ≠ (ρ l1).b
          omega
        · rw [hext l1 hlt1, hext l2 hlt2]
          exact hm.apart l1 b1 l2 b2 e1 e2 hw hne hnv
  -- the function that is ranged over
  have hgv := evA_ok ht g
  rw [hg] at hgv
  simp only [AV.rel] at hgv
  obtain ⟨xs, ys, hgv, hxs, hys⟩ := hgv
  have hargs : AV.rels ρ1 m1.nx (first ++ [.yld m.nx] ++ cap) (xs ++ [.func (.yield (w.heap.size + 1)) #[] #[]] ++ ys) := by
    refine AV.rels.append (AV.rels.append (AV.rels.ext hext (by omega) _ _ hxs) ?_) (AV.rels.ext hext (by omega) _ _ hys)
    simp only [AV.rels, AV.rel]
    exact ⟨_, _, rfl, ⟨by omega, by rw [hself]⟩, rfl⟩
  have hcalls := calls_of hff hfb (by rw [hnx1]; exact hit) hm1 hargs
  let mark : Deferred := { target := .collected w.heap.size, args := #[] }
  obtain ⟨e, w3, fr, ⟨ρ2, x0, rfl, _, hm2, mv⟩, hsteps, _, hleave⟩ := hcalls (b.atR { a with defers := [mark] ++ a.defers } (.inRangeFunc (w.heap.size + 1) :: k) :: cs)
  have henter := stepR_rangeFunc (P := P) (b := b) (a := a) (k := k) (cs := cs) (w := w) (g := g) (ps := ps) (body := body) (assign := asg) (w₁' := w1) (w₂ := w1) (f := gi) (args := (xs ++ [Value.func (.yield (w.heap.size + 1)) #[] #[]] ++ ys).toArray) (d := { target := .fn (.func gf) ys.toArray, args := xs.toArray ++ #[Value.func (.yield (w.heap.size + 1)) #[] #[]] }) he
    (by simp only [resolve, hgv, rangeCall, Deferred.ofValue, Sem.run_pure, Sem.run_bind, Result.andThen_ok]; simp [Act.eval])
    (by
      simp only [invoke]
      rw [← hgf]
      congr 2
      apply Array.ext'; simp)
  -- behind it
  have hb3 := hm2.blk m.nx _ hl2
  obtain ⟨lp3, hL3, hst3, hpe3, _⟩ := hb3.2.obj _ rfl
  have hρL : ρ2 m.nx = ⟨w.heap.size + 1, 0, 0, 0⟩ := by rw [mv.ext m.nx (by omega), hself]
  rw [hρL] at hL3
  dsimp only at hL3
  have hend := run_endLoop (P := P) hL3 (by rw [hst3]; unfold stOf; split <;> simp)
  obtain ⟨w4, hw4⟩ : ∃ w4, w4 = w3.putObj (w.heap.size + 1) (.loop { lp3 with state := .exhausted }) := ⟨_, rfl⟩
  rw [← hw4] at hend
  rw [hpe3] at hend
  have hs4 : w4.heap.size = w3.heap.size := by rw [hw4]; simp
  have ho4 : ∀ h, h ≠ w.heap.size + 1 → w4.heap[h]? = w3.heap[h]? := fun h hne => by rw [hw4]; exact World.putObj_heap_other hne
  have hm4 : MRel ρ2 ⟨upd m2.bl m.nx none, m2.nx⟩ w4 := hm2.poke hl2 rfl hs4 (fun h hne => ho4 h (by rw [hρL] at hne; exact hne))
  have hnw1 : ¬ Wr ρ1 m1 w.heap.size := fun ⟨l, b', e1, e2, e3⟩ => by
    rcases key l b' e1 with ⟨rfl, rfl⟩ | ⟨hlt, e1⟩
    · rw [hself] at e3; simp only at e3; omega
    · rw [hext l hlt] at e3
      have := (hm.blk l b' e1).2.lt.resolve_right (wr_not_void e2)
      omega
  have hD3 : w3.heap[w.heap.size]? = some (.deferred (some [])) := by rw [mv.keep _ (by omega) hnw1]; exact hD1
  have hD4 : w4.heap[w.heap.size]? = some (.deferred (some [])) := by rw [ho4 _ (by omega)]; exact hD3
  have hWr2 : ∀ h, Wr ρ2 ⟨upd m2.bl m.nx none, m2.nx⟩ h → Wr ρ1 m1 h ∨ w1.heap.size ≤ h := fun h ⟨l, b', e1, e2, e3⟩ => mv.fresh h ⟨l, b', by
    simp only [look_upd] at e1
    split at e1
    · cases e1
    · exact e1, e2, e3⟩
  have ht2 : AV.rels ρ2 m2.nx tm a.tmps.toList := AV.rels.ext (fun l hl => (mv.ext l (by omega)).trans (hext l hl)) (by have := mv.nx; omega) _ _ ht
  obtain ⟨ρ3, a5, w5, todo5, st5, hd5, hK5, hm5, mv5⟩ := hafter b cs ρ2 { a with defers := [mark] ++ a.defers } w4 hro ht2 hm4 (by have := mv.nx; show B ≤ m2.nx; omega)
  have hnw4 : ¬ Wr ρ2 ⟨upd m2.bl m.nx none, m2.nx⟩ w.heap.size := fun h => by
    rcases hWr2 _ h with h | h
    · exact hnw1 h
    · omega
  have hD5 : w5.heap[w.heap.size]? = some (.deferred (some [])) := by
    rw [mv5.keep _ (by rw [hs4]; have := mv.size; omega) hnw4]; exact hD4
  have htake := run_takeDeferred (P := P) hD5
  obtain ⟨x5, hx5, hr5⟩ := hK5 _ _ hD5
  refine ⟨ρ3, { a5 with defers := a.defers }, w5.putObj w.heap.size (.deferred none), todo5, x5, ?_, rfl, hx5, hr5, hm5.take hD5, ⟨fun l hl => ?_, mv5.nx, ?_, ?_, ?_, ?_, fun h hh hn => ?_, fun h hh => ?_⟩⟩
  · refine Steps.trans (.one henter) (Steps.trans hsteps (Steps.trans (.one (step_leave_returned hleave)) ?_))
    rw [finish_atR_inRangeFunc]
    refine Steps.trans (.one (stepR_endRangeFunc hend)) ?_
    have ej : (j.map Item.code).toList ++ k = jumpI j k := by cases j <;> rfl
    rw [ej]
    refine Steps.trans st5 ?_
    have := step_collected (P := P) (fr := { b.atR a5 todo5 with mode := .returning }) (cs := cs) (w := w5) (d := mark) (r := w.heap.size) (ds := a.defers) (calls := []) (by simp) (by show a5.defers = _; rw [hd5]; rfl) rfl htake
    exact .one this
  · rw [mv5.ext l hl, mv.ext l (by omega), hext l (by omega)]
  · show w5.os = w.os
    rw [mv5.os, hw4]; show w3.os = w.os
    rw [mv.os, hw1]; rfl
  · show w5.tape = w.tape
    rw [mv5.tape, hw4]; show w3.tape = w.tape
    rw [mv.tape, hw1]; rfl
  · show OutLe w w5
    refine OutLe.trans mv5.output ?_
    rw [hw4]; show OutLe w w3
    refine OutLe.trans mv.output ?_
    rw [hw1]; exact ⟨rfl, Nat.le_refl _⟩
  · have h1 := mv.size
    have h2 := mv5.size
    simp only [World.putObj_size]
    omega
  · have hnw1' : ¬ Wr ρ1 m1 h := fun ⟨l, b', e1, e2, e3⟩ => by
      rcases key l b' e1 with ⟨rfl, rfl⟩ | ⟨hlt, e1⟩
      · rw [hself] at e3; simp only at e3; omega
      · exact hn ⟨l, b', e1, e2, by rw [← hext l hlt]; exact e3⟩
    have hsz := mv.size
    rw [World.putObj_heap_other (by omega), mv5.keep h (by omega) (fun hw => by
      rcases hWr2 _ hw with h1 | h1
      · exact hnw1' h1
      · omega), ho4 h (by omega), mv.keep h (by omega) hnw1', ho1 h hh]
  · rcases mv5.fresh h hh with h1 | h1
    · rcases hWr2 h h1 with ⟨l, b', e1, e2, e3⟩ | h2
      · rcases key l b' e1 with ⟨rfl, rfl⟩ | ⟨hlt, e1⟩
        · rw [hself] at e3; simp only at e3
          exact .inr (by omega)
        · exact .inl ⟨l, b', e1, e2, by rw [← hext l hlt]; exact e3⟩
      · exact .inr (by omega)
    · have hsz := mv.size
      exact .inr (by omega)
theorem range_gives {B : Nat} {f fn : Func} {c body asg : Code} {g : Operand} {ps : Array Tmp} {k : List Item} {tm tm2 : List AV} {m m2 m3 : MS} {gf gi : FuncId} {first cap : List AV} {u v : AV} {j : Option Code} {st : Nat} {ps2 : List Nat} {asg2 body2 : Code}
    (hg : evA tm g = .clo gf first cap) (hgf : ∀ xs w, (callFunc gf xs).run P w = .ok (.enter gi xs) w) (hff : P.funcs[gi]? = some fn) (hfb : fn.body = some c)
    (hit : Gives_ P fn (m.nx + 1) (enterA fn c (first ++ [.yld m.nx] ++ cap) ⟨(m.nx, some ⟨true, false, .obj (.loop 0 none tm ps.toList asg body)⟩) :: m.bl, m.nx + 1⟩) u m2)
    (hl2 : look m2.bl m.nx = some ⟨true, false, .obj (.loop st j tm2 ps2 asg2 body2)⟩) (hB : B ≤ m.nx)
    (hres : (f.results.toList.all fun r => match r with | .tmp _ => true | _ => false) = true)
    (hafter : Gives_ P f B ⟨jumpI j k, tm, ⟨upd m2.bl m.nx none, m2.nx⟩⟩ v m3) : Gives_ P f B ⟨.code (.rangeFunc g ps asg body) :: k, tm, m⟩ v m3 := range_givesK hg hgf hff hfb hit hl2 hB (hafter.keepK hres)
end
/-- The loops over functions, one by one. -/
def rangesOf : Code → List Item → List (List Item)
  | .seq a b, k => rangesOf a (.code b :: k) ++ rangesOf b k
  | .cond _ x y, k => rangesOf x k ++ rangesOf y k
  | .block id b, k => rangesOf b (.inBlock id :: k)
  | .loop b, k => rangesOf b (.inLoop b :: k)
  | .scope b, k => rangesOf b (.inScope b :: k)
  | .rangeFunc g ps a b, k => [.code (.rangeFunc g ps a b) :: k]
  | _, _ => []
def rg (f : Func) (i : Nat) : List Item := (rangesOf (bodyOf f) []).getD i []
def rgG : List Item → Operand
  | .code (.rangeFunc g _ _ _) :: _ => g
  | _ => .tmp 0
def rgP : List Item → Array Tmp
  | .code (.rangeFunc _ p _ _) :: _ => p
  | _ => #[]
def rgA : List Item → Code
  | .code (.rangeFunc _ _ a _) :: _ => a
  | _ => .skip
def rgB : List Item → Code
  | .code (.rangeFunc _ _ _ b) :: _ => b
  | _ => .skip
def isRg : List Item → Bool
  | .code (.rangeFunc ..) :: _ => true
  | _ => false
theorem isRg_eq {t : List Item} (h : isRg t = true) : t = .code (.rangeFunc (rgG t) (rgP t) (rgA t) (rgB t)) :: t.tail := by
  unfold isRg at h
  split at h
  · rfl
  · cases h
/-- The block of a loop over a function. -/
abbrev lpB (t : List Item) (st : Nat) (pe : Option Code) (tm : List AV) : Option ABlk := some ⟨true, false, .obj (.loop st pe tm (rgP t).toList (rgA t) (rgB t))⟩
section
variable {P : Program}
theorem range_at {B : Nat} {f fn : Func} {c : Code} {t : List Item} {tm tm2 : List AV} {m m2 m3 : MS} {gf gi : FuncId} {first cap : List AV} {u v : AV} {j : Option Code} {st : Nat} {ps2 : List Nat} {asg2 body2 : Code} (hr : isRg t = true)
    (hg : evA tm (rgG t) = .clo gf first cap) (hgf : ∀ xs w, (callFunc gf xs).run P w = .ok (.enter gi xs) w) (hff : P.funcs[gi]? = some fn) (hfb : fn.body = some c)
    (hit : Gives_ P fn (m.nx + 1) (enterA fn c (first ++ [.yld m.nx] ++ cap) ⟨(m.nx, lpB t 0 none tm) :: m.bl, m.nx + 1⟩) u m2)
    (hl2 : look m2.bl m.nx = some ⟨true, false, .obj (.loop st j tm2 ps2 asg2 body2)⟩) (hB : B ≤ m.nx)
    (hres : (f.results.toList.all fun r => match r with | .tmp _ => true | _ => false) = true)
    (hafter : Gives_ P f B ⟨jumpI j t.tail, tm, ⟨upd m2.bl m.nx none, m2.nx⟩⟩ v m3) : Gives_ P f B ⟨t, tm, m⟩ v m3 := by
  rw [isRg_eq hr]
  exact range_gives hg hgf hff hfb hit hl2 hB hres hafter
theorem range_atK {B : Nat} {f fn : Func} {c : Code} {t : List Item} {tm tm2 : List AV} {m m2 m3 : MS} {gf gi : FuncId} {first cap : List AV} {u v : AV} {j : Option Code} {st : Nat} {ps2 : List Nat} {asg2 body2 : Code} (hr : isRg t = true)
    (hg : evA tm (rgG t) = .clo gf first cap) (hgf : ∀ xs w, (callFunc gf xs).run P w = .ok (.enter gi xs) w) (hff : P.funcs[gi]? = some fn) (hfb : fn.body = some c)
    (hit : Gives_ P fn (m.nx + 1) (enterA fn c (first ++ [.yld m.nx] ++ cap) ⟨(m.nx, lpB t 0 none tm) :: m.bl, m.nx + 1⟩) u m2)
    (hl2 : look m2.bl m.nx = some ⟨true, false, .obj (.loop st j tm2 ps2 asg2 body2)⟩) (hB : B ≤ m.nx)
    (hafter : GivesK P f B ⟨jumpI j t.tail, tm, ⟨upd m2.bl m.nx none, m2.nx⟩⟩ v m3) : Gives_ P f B ⟨t, tm, m⟩ v m3 := by
  rw [isRg_eq hr]
  exact range_givesK hg hgf hff hfb hit hl2 hB hafter
/-- Runs over any contracts. -/
def FE_ (P : Program) (E : Env) (f : Func) (cuts : List Cut) (ns : List Nat) (top : Nat) (args : List AV) (m : MS) : Option Fin_ := fun_ P E (drawAB P E) f cuts ns top args m
def HE_ (P : Program) (E : Env) (f : Func) (cuts : List Cut) (ns : List Nat) (top : Nat) (todo : List Item) (tm : List AV) (m : MS) : Option Fin_ := from_ P E (drawAB P E) f cuts ns top todo tm m
theorem FE_ret {E : Env} {f : Func} {c : Code} {cuts : List Cut} {ns : List Nat} {top : Nat} {args : List AV} {m m' : MS} {v : AV} (hE : ESound P E) (hm : MixedOk P) (hC : cutsB m.nx cuts = true) (hb : f.body = some c)
    (h : FE_ P E f cuts ns top args m = some (.ret v m' true)) : Gives_ P f m.nx (enterA f c args m) v m' := gives_of hE (drawAB_ok hE hm) hC hb h rfl
theorem FE_head {E : Env} {f : Func} {c : Code} {cuts : List Cut} {ns : List Nat} {top : Nat} {args : List AV} {m m' : MS} {todo : List Item} {tm : List AV} (hE : ESound P E) (hm : MixedOk P) (hC : cutsB m.nx cuts = true) (hb : f.body = some c)
    (h : FE_ P E f cuts ns top args m = some (.head todo tm m' true)) : Goes P m.nx (enterA f c args m) ⟨todo, tm, m'⟩ := goes_of hE (drawAB_ok hE hm) hC hb h rfl
theorem HE_ret {E : Env} {f : Func} {cuts : List Cut} {ns : List Nat} {top : Nat} {todo : List Item} {tm : List AV} {m m' : MS} {v : AV} {B : Nat} {chk : Bool} (hE : ESound P E) (hm : MixedOk P) (hC : cutsB B cuts = true)
    (h : HE_ P E f cuts ns top todo tm m = some (.ret v m' chk)) (hc : chk = true) : Gives_ P f B ⟨todo, tm, m⟩ v m' := by
  subst hc; exact from_ret hE (drawAB_ok hE hm) hC h
theorem HE_retK {E : Env} {f : Func} {cuts : List Cut} {ns : List Nat} {top : Nat} {todo : List Item} {tm : List AV} {m m' : MS} {v : AV} {B : Nat} {chk : Bool} (hE : ESound P E) (hm : MixedOk P) (hC : cutsB B cuts = true)
    (h : HE_ P E f cuts ns top todo tm m = some (.ret v m' chk)) (hc : chk = true) : GivesK P f B ⟨todo, tm, m⟩ v m' := by
  subst hc; exact from_retK hE (drawAB_ok hE hm) hC h
theorem HE_head {E : Env} {f : Func} {cuts : List Cut} {ns : List Nat} {top : Nat} {todo todo' : List Item} {tm tm' : List AV} {m m' : MS} {B : Nat} {chk : Bool} (hE : ESound P E) (hm : MixedOk P) (hC : cutsB B cuts = true)
    (h : HE_ P E f cuts ns top todo tm m = some (.head todo' tm' m' chk)) (hc : chk = true) : Goes P B ⟨todo, tm, m⟩ ⟨todo', tm', m'⟩ := by
  subst hc; exact from_head hE (drawAB_ok hE hm) hC h
end
end Go.Proofs.Ytmjpikkloofakaa
