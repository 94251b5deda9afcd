/-
  Regions whose order is open, with places made at any time: the rule holds.
-/
import Derived.Test.YtnkpegdmbocgaaaDoorExC
namespace Go.Proofs.YtnkpegdmbocgaaaDoor
open Go Go.RowKit
section
variable {n l : Nat}
theorem blt_off {k : Nat} (h : Nat.blt k n = true) (hl : n ≤ l) : (!Nat.beq k l) = true := by
  have : k < n := by simpa [Nat.blt_eq] using h
  cases e : Nat.beq k l with
  | false => rfl
  | true => have := Nat.eq_of_beq_eq_true e; omega
mutual
theorem AV.off_of (hl : n ≤ l) : ∀ (a : AV), a.locsB n = true → a.offB l = true
  | .unk, _ => rfl
  | .val _, _ => rfl
  | .ptr k w r c, h => by simp only [AV.locsB, AV.offB] at h ⊢; exact blt_off h hl
  | .sl nn k w r s m cap, h => by simp only [AV.locsB, AV.offB] at h ⊢; exact blt_off h hl
  | .gd _ _ g v, h => by simp only [AV.locsB, AV.offB] at h ⊢; exact AV.off_of hl v h
  | .clo f fs cs, h => by
    simp only [AV.locsB, AV.offB, Bool.and_eq_true] at h ⊢
    exact ⟨AV.offs_of hl fs h.1, AV.offs_of hl cs h.2⟩
  | .agg cs, h => by simp only [AV.locsB, AV.offB] at h ⊢; exact AV.offs_of hl cs h
  | .tup cs, h => by simp only [AV.locsB, AV.offB] at h ⊢; exact AV.offs_of hl cs h
  | .yld k, h => by simp only [AV.locsB, AV.offB] at h ⊢; exact blt_off h hl
theorem AV.offs_of (hl : n ≤ l) : ∀ (as : List AV), AV.locsBs n as = true → AV.offsB l as = true
  | [], _ => rfl
  | a :: as, h => by
    simp only [AV.locsBs, AV.offsB, Bool.and_eq_true] at h ⊢
    exact ⟨AV.off_of hl a h.1, AV.offs_of hl as h.2⟩
end
theorem offsB_set : ∀ {as : List AV} {i : Nat} {a : AV}, AV.offsB l as = true → a.offB l = true → AV.offsB l (as.set i a) = true
  | [], _, _, _, _ => rfl
  | b :: as, 0, a, h, ha => by
    simp only [List.set_cons_zero, AV.offsB, Bool.and_eq_true] at h ⊢
    exact ⟨ha, h.2⟩
  | b :: as, i + 1, a, h, ha => by
    simp only [List.set_cons_succ, AV.offsB, Bool.and_eq_true] at h ⊢
    exact ⟨h.1, offsB_set h.2 ha⟩
theorem putA_off {tm : List AV} {d : Option Tmp} {v : AV} (h : AV.offsB l tm = true) (hv : v.offB l = true) : AV.offsB l (putA tm d v) = true := by
  cases d with
  | none => exact h
  | some t => exact offsB_set h hv
end
theorem TS_off {d : Nat → Option Tmp} {v : Nat → AV} {tm : List AV} {sel : Nat → Bool} {l : Nat} (h : AV.offsB l tm = true) : ∀ k, (∀ j, j < k → sel j = true → (v j).offB l = true) → AV.offsB l (TS d v tm sel k) = true
  | 0, _ => h
  | k + 1, hv => by
    simp only [TS]
    split
    · rename_i hs
      exact putA_off (TS_off h k fun j hj => hv j (by omega)) (hv k (by omega) hs)
    · exact TS_off h k fun j hj => hv j (by omega)
def addOf : Eff → Option ABlk
  | .add _ b => some b
  | _ => none
/-- In front: nothing, or a place of its own. -/
def FrontE (N0 : Nat) (ef : Nat → Eff) (j : Nat) : Prop := ef j = .no ∨ ∃ b, ef j = .add (N0 + j) b
theorem ES_front {N0 : Nat} {ef : Nat → Eff} {m : MS} {sel : Nat → Bool} : ∀ k, (∀ j, j < k → sel j = true → FrontE N0 ef j) →
    (ESel ef m sel k).nx = m.nx ∧ (∀ l, l < N0 → look (ESel ef m sel k).bl l = look m.bl l) ∧ ∀ j, look (ESel ef m sel k).bl (N0 + j) = if j < k ∧ sel j = true ∧ (addOf (ef j)).isSome = true then addOf (ef j) else look m.bl (N0 + j)
  | 0, _ => ⟨rfl, fun _ _ => rfl, fun j => by rw [if_neg (by omega)]; rfl⟩
  | k + 1, h => by
    obtain ⟨h1, h2, h3⟩ := ES_front k fun j hj => h j (by omega)
    simp only [ESel]
    by_cases hs : sel k = true
    · rw [if_pos hs]
      rcases h k (by omega) hs with e | ⟨b, e⟩
      · rw [e]
        refine ⟨h1, h2, fun j => ?_⟩
        show look (ESel ef m sel k).bl (N0 + j) = _
        rw [h3 j]
        by_cases hj : j = k
        · subst hj
          rw [if_neg (by omega), if_neg]
          rw [e]
          simp [addOf]
        · have : j < k + 1 ↔ j < k := by omega
          simp only [this]
      · rw [e]
        refine ⟨h1, fun l hl => ?_, fun j => ?_⟩
        · show look ((N0 + k, some b) :: (ESel ef m sel k).bl) l = _
          rw [look_cons, if_neg (by omega)]
          exact h2 l hl
        · show look ((N0 + k, some b) :: (ESel ef m sel k).bl) (N0 + j) = _
          rw [look_cons]
          by_cases hj : j = k
          · subst hj
            rw [if_pos rfl, if_pos ⟨by omega, hs, by rw [e]; rfl⟩, e]
            rfl
          · rw [if_neg (by omega), h3 j]
            have : j < k + 1 ↔ j < k := by omega
            simp only [this]
    · rw [if_neg hs]
      refine ⟨h1, h2, fun j => ?_⟩
      rw [h3 j]
      by_cases hj : j = k
      · subst hj
        rw [if_neg (by omega), if_neg (fun h => hs h.2.1)]
      · have : j < k + 1 ↔ j < k := by omega
        simp only [this]
theorem ESel_same {ef : Nat → Eff} {m : MS} {sel sel' : Nat → Bool} : ∀ k, (∀ j, j < k → sel j = sel' j) → ESel ef m sel k = ESel ef m sel' k
  | 0, _ => rfl
  | k + 1, h => by simp only [ESel]; rw [ESel_same k fun j hj => h j (by omega), h k (by omega)]
/-- What lies behind i is not there. -/
theorem ESel_eff {ef : Nat → Eff} {m : MS} {sel sel' : Nat → Bool} : ∀ k, (∀ j, j < k → sel j = sel' j ∨ ef j = .no) → ESel ef m sel k = ESel ef m sel' k
  | 0, _ => rfl
  | k + 1, h => by
    have IH := ESel_eff (ef := ef) (m := m) (sel := sel) (sel' := sel') k fun j hj => h j (by omega)
    simp only [ESel]
    rcases h k (by omega) with e | e
    · rw [e, IH]
    · rw [e, IH]
      cases sel k <;> cases sel' k <;> rfl
theorem ESel_cut {ef : Nat → Eff} {m : MS} {sel : Nat → Bool} {i : Nat} : ∀ k, i ≤ k → (∀ j, i ≤ j → j < k → sel j = false) → ESel ef m sel k = ESel ef m sel i
  | 0, h, _ => by have : i = 0 := by omega
                  subst this; rfl
  | k + 1, h, hj => by
    by_cases e : i = k + 1
    · subst e; rfl
    · simp only [ESel]
      rw [if_neg (by rw [hj k (by omega) (by omega)]; exact Bool.false_ne_true)]
      exact ESel_cut k (by omega) fun j h1 h2 => hj j h1 (by omega)
theorem ESel_no {ef : Nat → Eff} {m : MS} {sel sel' : Nat → Bool} {i : Nat} (he : ef i = .no) (h : ∀ j, j ≠ i → sel j = sel' j) : ∀ k, ESel ef m sel k = ESel ef m sel' k
  | 0 => rfl
  | k + 1 => by
    simp only [ESel]
    rw [ESel_no he h k]
    by_cases hk : k = i
    · subst hk
      rw [he]
      show (if sel k then ESel ef m sel' k else ESel ef m sel' k) = if sel' k then ESel ef m sel' k else ESel ef m sel' k
      simp
    · rw [h k hk]
mutual
theorem AV.locs_up {n n' : Nat} (hn : n ≤ n') : ∀ (a : AV), a.locsB n = true → a.locsB n' = true
  | .unk, _ => rfl
  | .val _, _ => rfl
  | .ptr k w r c, h => by simp only [AV.locsB, Nat.blt_eq] at h ⊢; omega
  | .sl nn k w r s m cap, h => by simp only [AV.locsB, Nat.blt_eq] at h ⊢; omega
  | .gd _ _ g v, h => by simp only [AV.locsB] at h ⊢; exact AV.locs_up hn v h
  | .clo f fs cs, h => by
    simp only [AV.locsB, Bool.and_eq_true] at h ⊢
    exact ⟨AV.locss_up hn fs h.1, AV.locss_up hn cs h.2⟩
  | .agg cs, h => by simp only [AV.locsB] at h ⊢; exact AV.locss_up hn cs h
  | .tup cs, h => by simp only [AV.locsB] at h ⊢; exact AV.locss_up hn cs h
  | .yld k, h => by simp only [AV.locsB, Nat.blt_eq] at h ⊢; omega
theorem AV.locss_up {n n' : Nat} (hn : n ≤ n') : ∀ (as : List AV), AV.locsBs n as = true → AV.locsBs n' as = true
  | [], _ => rfl
  | a :: as, h => by
    simp only [AV.locsBs, Bool.and_eq_true] at h ⊢
    exact ⟨AV.locs_up hn a h.1, AV.locss_up hn as h.2⟩
end
theorem Cont.locs_up {n n' : Nat} (hn : n ≤ n') {k : Cont} (h : k.locsB n = true) : k.locsB n' = true := by
  cases k with
  | cells l => exact AV.locss_up hn l h
  | col _ => rfl
  | rows _ => rfl
  | obj q => cases q with
    | glob g vs => rfl
    | loop st pe tm ps asg body => exact AV.locss_up hn tm h
theorem Cont.locs_off {n l : Nat} (hl : n ≤ l) {k : Cont} (h : k.locsB n = true) : k.offB l = true := by
  cases k with
  | cells as => exact AV.offs_of hl as h
  | col c => rfl
  | rows cs => rfl
  | obj q => cases q with
    | glob g vs => rfl
    | loop st pe tm ps asg body => exact AV.offs_of hl tm h
theorem locsBs_off {n l : Nat} {as : List AV} (h : AV.locsBs n as = true) (hl : n ≤ l) : AV.offsB l as = true := AV.offs_of hl as h
section
variable {P : Program} {E : Env}
theorem stepB_front {ops : Array Oper} {N0 i : Nat} {o : Oper} {tm : List AV} {m : MS} {v : AV} {e : Eff} {bs : List Bool} (h : stepB P E ops N0 true i o tm m = some (v, e, bs)) :
    (∃ b m', stepA P E ops o (downA (N0 + i) tm) ⟨roB (miB ops N0 i m).bl, N0 + i⟩ = some (v, some m', bs) ∧ look m'.bl (N0 + i) = some b ∧ b.wr = true ∧ b.cont.okB (pB (masks ops.toList []) ops.size N0 i) = true ∧ b.cont.locsB (N0 + i) = true ∧ v.okB (pB (masks ops.toList []) ops.size N0 i) = true ∧ v.locsB (N0 + i + 1) = true ∧ e = .add (N0 + i) b) ∨
    (stepA P E ops o tm (miB ops N0 i m) = some (v, none, bs) ∧ v.okB (pB (masks ops.toList []) ops.size N0 i) = true ∧ e = .no) := by
  simp only [stepB] at h
  cases hs : stepA P E ops o tm (miB ops N0 i m) with
  | none => rw [hs] at h; cases h
  | some q =>
    obtain ⟨v', mo, bs'⟩ := q
    rw [hs] at h
    cases mo with
    | some mz =>
      dsimp only at h
      cases hs2 : stepA P E ops o (downA (N0 + i) tm) ⟨roB (miB ops N0 i m).bl, N0 + i⟩ with
      | none => rw [hs2] at h; cases h
      | some q =>
        obtain ⟨v2, mo2, bs2⟩ := q
        rw [hs2] at h
        cases mo2 with
        | none => cases h
        | some m2 =>
          dsimp only at h
          unfold freshB at h
          cases hl : look m2.bl (N0 + i) with
          | none => rw [hl] at h; cases h
          | some b =>
            rw [hl] at h
            dsimp only at h
            split at h
            · rename_i b' hb'
              split at hb'
              · rename_i hc
                cases hb'
                cases h
                simp only [Bool.and_eq_true] at hc
                exact .inl ⟨b, m2, rfl, hl, hc.1, hc.2.1, hc.2.2.1, hc.2.2.2.1, hc.2.2.2.2, rfl⟩
              · cases hb'
            · cases h
    | none =>
      dsimp only at h
      cases hl : v'.okB (pB (masks ops.toList []) ops.size N0 i) with
      | false => rw [hl] at h; cases h
      | true => rw [hl] at h; cases h; exact .inr ⟨rfl, hl, rfl⟩
theorem stepB_back {ops : Array Oper} {N0 l : Nat} {o : Oper} {tm : List AV} {m : MS} {v : AV} {e : Eff} {bs : List Bool} (h : stepB P E ops N0 false l o tm m = some (v, e, bs)) :
    ∃ mo, stepA P E ops o tm m = some (v, mo, bs) ∧ e.on m = mo.getD m ∧ (pureB o = true → e = .no ∧ v.okB (pB (masks ops.toList []) ops.size N0 l) = true) := by
  simp only [stepB] at h
  cases hs : stepA P E ops o tm m with
  | none => rw [hs] at h; cases h
  | some q =>
    obtain ⟨v', mo, bs'⟩ := q
    rw [hs] at h
    cases mo with
    | none =>
      dsimp only at h
      split at h
      · cases h
      · rename_i hc
        cases h
        refine ⟨none, rfl, rfl, fun hp => ⟨rfl, ?_⟩⟩
        rw [hp, Bool.true_and] at hc
        simpa using hc
    | some m' =>
      cases h
      exact ⟨some m', rfl, rfl, fun hp => by have := pure_none hp hs; cases this⟩
/-- An operation that sees no memory. -/
theorem stepB_pure {ops : Array Oper} {N0 i : Nat} {o : Oper} {tm : List AV} {m : MS} {v : AV} {e : Eff} {bs : List Bool} {fr : Bool} (hp : pureB o = true) (h : stepB P E ops N0 fr i o tm m = some (v, e, bs)) :
    (∀ m', stepA P E ops o tm m' = some (v, none, bs)) ∧ e = .no ∧ v.okB (pB (masks ops.toList []) ops.size N0 i) = true := by
  cases fr with
  | true =>
    rcases stepB_front h with ⟨b, m2, hs, _⟩ | ⟨hs, hv, he⟩
    · have := pure_none hp hs; cases this
    · exact ⟨fun m' => by rw [pure_any hp m']; exact hs, he, hv⟩
  | false =>
    obtain ⟨mo, hs, hm, hr⟩ := stepB_back h
    obtain ⟨he, hv⟩ := hr hp
    have := pure_none hp hs
    subst this
    exact ⟨fun m' => by rw [pure_any hp m']; exact hs, he, hv⟩
/-- The names of new blocks stand ahead. -/
theorem ESel_ahead {N0 : Nat} {ef : Nat → Eff} {m : MS} {sel : Nat → Bool} (hm : NewAhead N0 m.bl) : ∀ k, (∀ j, j < k → sel j = true → FrontE N0 ef j) → NewAhead N0 (ESel ef m sel k).bl
  | 0, _ => hm
  | k + 1, h => by
    have IH := ESel_ahead hm k fun j hj => h j (by omega)
    simp only [ESel]
    split
    · rename_i hs
      rcases h k (by omega) hs with he | ⟨b, he⟩
      · rw [he]; exact IH
      · rw [he]; exact .inl ⟨by omega, IH⟩
    · exact IH
theorem blocksB_ahead {N0 : Nat} : ∀ {bl : List (Nat × Option ABlk)}, namesB N0 bl = true → NewAhead N0 bl
  | [], _ => trivial
  | (k, o) :: r, h => by
    simp only [namesB, Bool.and_eq_true] at h
    refine .inr ⟨by simpa [Nat.blt_eq] using h.1, fun j hj => ?_⟩
    have hr : ∀ {r : List (Nat × Option ABlk)}, namesB N0 r = true → look r j = none := fun {r} hr => by
      induction r with
      | nil => rfl
      | cons p r ih =>
        obtain ⟨k', o'⟩ := p
        simp only [namesB, Bool.and_eq_true] at hr
        rw [look_cons, if_neg (by have : k' < N0 := by simpa [Nat.blt_eq] using hr.1
                                  omega)]
        exact ih hr.2
    exact hr h.2
variable {ops : Array Oper}
theorem drawB_ok (hE : ESound P E) (hm : MixedOk P) : DSound P (drawB P E) := by
  intro rid ops tm m tm' m' bs h hbs B ρ a w Q ht hnogd hmr hB k
  unfold drawB at h
  cases htr : traceB P E ops m.nx (frontN ops.toList) ops.toList 0 tm ⟨m.bl, m.nx + ops.size⟩ with
  | none => rw [htr] at h; cases h
  | some ts =>
    rw [htr] at h
    dsimp only at h
    split at h
    · rename_i hck
      simp only [Bool.and_eq_true] at hck
      obtain ⟨_, hedge, hgok, hgah, hpair, hlt, hlb, hnm⟩ := hck
      generalize hF : frontN ops.toList = F at *
      generalize hM0 : (⟨m.bl, m.nx + ops.size⟩ : MS) = m0 at *
      have hM0b : m0.bl = m.bl := by rw [← hM0]
      have hM0n : m0.nx = m.nx + ops.size := by rw [← hM0]
      obtain ⟨hlen, hfin1, hfin2, hall⟩ := traceB_ok (P := P) (E := E) (ops := ops) ops.toList [] [] tm tm m0 m0 ts rfl rfl rfl rfl htr
      simp only [List.nil_append, List.length_nil] at hfin1 hfin2 hall
      generalize hD : dOf ops = d at hfin1 hfin2 hall
      generalize hV : vB ts = v at hfin1 hfin2 hall
      generalize hEf : eB ts = ef at hfin1 hfin2 hall
      have hn : ops.toList.length = ops.size := by simp
      rw [hn] at hfin1 hfin2
      simp only [Option.some.injEq] at h
      have e1 : tm' = TS d v tm (fun _ => true) ops.size := by rw [← hfin1, h]
      have e2 : m' = ESel ef m0 (fun _ => true) ops.size := by rw [← hfin2, h]
      have e3 : (finB ops.toList ts tm m0).2.2 = bs := by rw [h]
      have hpr : ∀ i j oi oj, i < j → ops[i]? = some oi → ops[j]? = some oj → bitOf (masks ops.toList []) j i = false → Oper.apart ops oi oj = true ∧ (j < F ∨ pureB oi = true ∨ pureB oj = true) := fun i j oi oj hij hi hj hb => by
        have hjs : j < ops.size := (Array.getElem?_eq_some_iff.1 hj).1
        unfold pairsB at hpair
        have h1 := List.all_eq_true.1 hpair j (List.mem_range.2 (by rw [hn]; exact hjs))
        have h2 := List.all_eq_true.1 h1 i (List.mem_range.2 hij)
        have hi' : ops.toList[i]? = some oi := by simpa using hi
        have hj' : ops.toList[j]? = some oj := by simpa using hj
        rw [hb, Bool.false_or, hi', hj'] at h2
        simp only [Bool.and_eq_true, Bool.or_eq_true] at h2
        exact ⟨h2.1, h2.2.imp (fun h => by simpa [Nat.blt_eq] using h) id⟩
      have hap : ∀ i j oi oj, i < j → ops[i]? = some oi → ops[j]? = some oj → bitOf (masks ops.toList []) j i = false → Oper.apart ops oi oj = true := fun i j oi oj h1 h2 h3 h4 => (hpr i j oi oj h1 h2 h3 h4).1
      have hpureE : ∀ j oj, ops[j]? = some oj → pureB oj = true → ef j = .no ∧ (v j).okB (pB (masks ops.toList []) ops.size m.nx j) = true := fun j oj hj hp => by
        have ho : ops.toList[j]? = some oj := by simpa using hj
        obtain ⟨bs1, h1, _⟩ := hall j oj (Nat.zero_le _) ho
        exact (stepB_pure hp h1).2
      have hdo : ∀ i o, ops[i]? = some o → d i = o.dst := fun i o ho => by
        rw [← hD]; unfold dOf
        have : ops.toList[i]? = some o := by simpa using ho
        rw [this]; rfl
      have hdn : ∀ i t, d i = some t → ∃ o, ops[i]? = some o ∧ o.dst = some t := fun i t hi => by
        rw [← hD] at hi; unfold dOf at hi
        cases ho : ops.toList[i]? with
        | none => rw [ho] at hi; cases hi
        | some o => rw [ho] at hi; exact ⟨o, by simpa using ho, hi⟩
      have hfrontE : ∀ j, j < ops.size → j < F → FrontE m.nx ef j ∧ (v j).okB (pB (masks ops.toList []) ops.size m.nx j) = true ∧ ∀ b, addOf (ef j) = some b → b.cont.okB (pB (masks ops.toList []) ops.size m.nx j) = true ∧ b.wr = true ∧ b.cont.locsB (m.nx + j) = true := fun j hj hjF => by
        have ho : ops.toList[j]? = some ops[j] := by simp [hj]
        obtain ⟨bs1, h1, _⟩ := hall j _ (Nat.zero_le _) ho
        rw [show Nat.blt j F = true by simpa [Nat.blt_eq] using hjF] at h1
        rcases stepB_front h1 with ⟨b, m2, _, _, hw, hok, hl, hv, _, he⟩ | ⟨_, hl, he⟩
        · refine ⟨.inr ⟨b, he⟩, hv, fun b' hb' => ?_⟩
          rw [he] at hb'
          cases hb'
          exact ⟨hok, hw, hl⟩
        · exact ⟨.inl he, hl, fun b' hb' => by rw [he] at hb'; cases hb'⟩
      have hno : ∀ j, look m0.bl (m.nx + j) = none := fun j => by
        cases hl : look m0.bl (m.nx + j) with
        | none => rfl
        | some b =>
          rw [hM0b] at hl
          have := (blocksB_look hlb hl).1
          omega
      -- what is done though something that sees memory waits ahead: it sees none
      have hback : ∀ listed, ClosedL ops listed → ∀ i oi, ops[i]? = some oi → pureB oi = false → listed.getD i false = false → ∀ j, i < j → j < ops.size → F ≤ j → listed.getD j false = true → ef j = .no ∧ (v j).okB (pB (masks ops.toList []) ops.size m.nx j) = true := fun listed hc i oi hoi hnp hif j hij hjs hjF hjl => by
        have hoj : ops[j]? = some ops[j] := Array.getElem?_eq_getElem hjs
        cases hb : bitOf (masks ops.toList []) j i with
        | true => rw [mask_behind hc hif j _ hoj hb] at hjl; cases hjl
        | false =>
          rcases (hpr i j _ _ hij hoi hoj hb).2 with h | h | h
          · omega
          · rw [hnp] at h; cases h
          · exact hpureE j _ hoj h
      intro rnd fu
      refine wpIn_region_any hm ?_
      have key : ∀ (f : Nat) (listed : Array Bool) (a1 : Act) (w1 : World), ClosedL ops listed → listed.toList.count false = f →
          GI (TS d v tm (fun i => listed.getD i false) ops.size) a1 → Whence ops (fun k => listed.getD k false = true) (TS d v tm (fun i => listed.getD i false) ops.size) →
          (∃ ρ1, AV.rels ρ1 (ESel ef m0 (fun i => listed.getD i false) ops.size).nx (TS d v tm (fun i => listed.getD i false) ops.size) a1.tmps.toList ∧ a1.defers = a.defers ∧ MRel ρ1 (ESel ef m0 (fun i => listed.getD i false) ops.size) w1 ∧ Moves B ρ ρ1 m (ESel ef m0 (fun i => listed.getD i false) ops.size) w w1) →
          wpAnyIn (FW rnd) fu P .any ops Q f listed a1 w1 := by
        intro f
        induction f with
        | zero =>
          intro listed a1 w1 hc hcnt _ _ ⟨ρ1, g1, g2, g3, g4⟩
          have hal : ∀ i, i < ops.size → listed.getD i false = true := fun i hi => by
            cases hg : listed.getD i false with
            | true => rfl
            | false =>
              have hil : i < listed.size := by rw [hc.1]; exact hi
              have : false ∈ listed.toList := by
                simp [hil] at hg
                rw [← hg]
                exact List.mem_of_getElem? (i := i) (by simp [hil])
              have := List.count_pos_iff.2 this
              omega
          have es : TS d v tm (fun i => listed.getD i false) ops.size = tm' := by
            rw [e1]
            exact ext_getD (by rw [TS_len, TS_len]) fun t => TS_same _ fun j hj _ => hal j hj
          have em : ESel ef m0 (fun i => listed.getD i false) ops.size = m' := by
            rw [e2]
            exact ESel_same _ fun j hj => hal j hj
          rw [es, em] at g1
          rw [em] at g3 g4
          refine ⟨?_, k ρ1 a1 w1 g1 g2 g3 g4⟩
          unfold Region.ready
          rw [List.filter_eq_nil_iff]
          intro i hi
          have hil : i < listed.size := by rw [hc.1]; exact List.mem_range.1 hi
          have := hal i (List.mem_range.1 hi)
          simp [hil] at this
          simp [hil, this]
        | succ f ih =>
          intro listed a1 w1 hc hcnt hGI hWh ⟨ρ1, g1, g2, g3, g4⟩
          refine ⟨fun hnil => ?_, fun i hi => ?_⟩
          · exfalso
            have hne : false ∈ listed.toList := List.count_pos_iff.1 (by omega)
            have hex : ∃ i, i < ops.size ∧ listed.getD i false = false := by
              obtain ⟨i, hi, hv⟩ := List.getElem_of_mem hne
              refine ⟨i, by rw [← hc.1]; simpa using hi, ?_⟩
              have : i < listed.size := by simpa using hi
              simp [this]
              simpa using hv
            have hmin : ∀ n, ∀ i, i < n → i < ops.size → listed.getD i false = false → False := by
              intro n
              induction n with
              | zero => intro i hi; omega
              | succ n ihn =>
                intro i hin his hif
                have ho : ops[i]? = some ops[i] := Array.getElem?_eq_getElem his
                have hil : i < listed.size := by rw [hc.1]; exact his
                have : i ∈ Region.ready .any ops listed := by
                  rw [mem_ready]
                  refine ⟨by simp [hil] at hif ⊢; exact hif, ops[i], ho, fun e he hb => ?_⟩
                  have hee : e.on < i := by
                    have h1 := List.all_eq_true.1 hedge i (List.mem_range.2 (by simpa using his))
                    have ho' : ops.toList[i]? = some ops[i] := by simp
                    rw [ho'] at h1
                    have h2 := List.all_eq_true.1 h1 e (by simpa using he)
                    rw [hb] at h2
                    simpa using h2
                  cases hl : listed.getD e.on false with
                  | true => rfl
                  | false => exact (ihn e.on (by omega) (by omega) hl).elim
                rw [hnil] at this
                cases this
            obtain ⟨i, hi1, hi2⟩ := hex
            exact hmin (i + 1) i (by omega) hi1 hi2
          · have hi0 := hi
            obtain ⟨hiun, oi, hoi, hdep⟩ := mem_ready.1 hi0
            have his : i < ops.size := (Array.getElem?_eq_some_iff.1 hoi).1
            have hoi' : ops.toList[i]? = some oi := by simpa using hoi
            have hil : i < listed.size := by rw [hc.1]; exact his
            have hif : listed.getD i false = false := by simp [hil] at hiun ⊢; exact hiun
            obtain ⟨bsi, hstep, hbsi⟩ := hall i oi (Nat.zero_le _) hoi'
            have hlooks := TS_looks (tm := tm) (v := v) hc hi0 hoi hif hdn hap
            have hTS := TS_put (tm := tm) (v := v) hc hoi hif (hdo i oi hoi) hdn hap
            have hset := set_getD (listed := listed) (i := i) hil
            have hbsi' : bsi.all id = true := by
              rw [List.all_eq_true] at hbs ⊢
              intro b hb
              refine hbs b ?_
              rw [← e3]
              exact hbsi b hb
            have hmk := masks_listed hc
            have hml : (masks ops.toList []).length = ops.size := by
              have := (masks_ok (listed := listed) ops.toList [] [] rfl (by simpa using hc) (fun i o _ h => by simp at h)).2
              simpa using this
            have hguard : ∀ k' o' j w', listed.getD k' false = true → ops[k']? = some o' → o'.guard = some (j, w') → j ≠ i := fun k' o' j w' hk' ho1 hg1 hj => by
              have hk1 : ops.toList[k']? = some o' := by simpa using ho1
              have h1 := List.all_eq_true.1 hgah k' (List.mem_range.2 (List.getElem?_eq_some_iff.1 hk1).1)
              rw [hk1] at h1
              dsimp only at h1
              rw [hg1] at h1
              dsimp only at h1
              have h2 := hmk k' o' hk1 (by rw [hml]; exact (Array.getElem?_eq_some_iff.1 ho1).1) (fun e he hb => hc.2 k' o' ho1 hk' e he hb) j h1
              rw [hj, hif] at h2
              cases h2
            -- what is left is one thing less
            have hcount : (listed.setIfInBounds i true).toList.count false = f := by
              have := count_set listed.toList i (by
                have : listed[i]? = some false := by simp [hil] at hif ⊢; exact hif
                simpa using this)
              simp only [Array.toList_setIfInBounds]
              omega
            -- how the rest goes on
            have cont : ∀ (x : Value) (w2 : World) (ρ2 : Rho), (∀ t w g u, v i = .gd t w g u → (g = true ↔ a1.tmps[t]? = some (.bool w)) ∧ ∃ j oj, oi.guard = some (j, w) ∧ ops[j]? = some oj ∧ oj.dst = some t) →
                AV.rels ρ2 (ESel ef m0 (fun j => (listed.setIfInBounds i true).getD j false) ops.size).nx (TS d v tm (fun j => listed.getD j false) ops.size) a1.tmps.toList → AV.rel ρ2 (ESel ef m0 (fun j => (listed.setIfInBounds i true).getD j false) ops.size).nx (v i) x →
                MRel ρ2 (ESel ef m0 (fun j => (listed.setIfInBounds i true).getD j false) ops.size) w2 → Moves B ρ ρ2 m (ESel ef m0 (fun j => (listed.setIfInBounds i true).getD j false) ops.size) w w2 →
                wpAnyIn (FW rnd) fu P .any ops Q f (listed.setIfInBounds i true) (a1.put oi.dst x) w2 := fun x w2 ρ2 hvi h1 hx h2 h3 => by
              obtain ⟨n1, n2⟩ := hGI.put (x := x) hWh hgok hoi hguard hvi
              refine ih _ _ _ (hc.set_ hi0) hcount (by rw [hTS]; exact n1) (by
                rw [hTS]
                intro i1 t w g u hi1
                obtain ⟨k', o', j, w', oj, hdn, hrest⟩ := n2 i1 t w g u hi1
                refine ⟨k', o', j, w', oj, ?_, hrest⟩
                show (listed.setIfInBounds i true).getD k' false = true
                rw [hset]
                split
                · rfl
                · rename_i hne
                  exact hdn.resolve_right hne) ⟨ρ2, ?_, ?_, h2, h3⟩
              · rw [hTS]
                exact putA_ok h1 hx
              · rw [← g2]; cases oi.dst <;> rfl
            cases hpi : pureB oi with
            | true =>
              obtain ⟨hs, he, _⟩ := stepB_pure hpi hstep
              have hES : ESel ef m0 (fun j => (listed.setIfInBounds i true).getD j false) ops.size = ESel ef m0 (fun j => listed.getD j false) ops.size := ESel_no he (fun j hj => by rw [hset, if_neg hj]) _
              refine stepA_ok hE hoi (by rw [stepA_congr hlooks]; exact hs (ESel ef m0 (fun j => listed.getD j false) ops.size)) g1 hGI g3 hbsi' (fun hvi ρ2 w2 x hx hm2 hmv => ?_) rnd fu
              refine cont x w2 ρ2 hvi ?_ ?_ ?_ ?_
              · rw [hES]; exact AV.rels.ext hmv.ext hmv.nx _ _ g1
              · rw [hES]; exact hx
              · rw [hES]; exact hm2
              · rw [hES]; exact g4.trans (hmv.base g4.nx)
            | false =>
            by_cases hiF : i < F
            · have hnoS : ∀ j, F ≤ j → j < ops.size → listed.getD j false = true → ef j = .no ∧ (v j).okB (pB (masks ops.toList []) ops.size m.nx j) = true := fun j h1 h2 hl => hback listed hc i oi hoi hpi hif j (by omega) h2 h1 hl
              have hfr : ∀ j, j < ops.size → listed.getD j false = true → FrontE m.nx ef j := fun j hj hs => by
                rcases Nat.lt_or_ge j F with h1 | h1
                · exact (hfrontE j hj h1).1
                · exact .inl (hnoS j h1 hj hs).1
              obtain ⟨x1, x2, x3⟩ := ES_front (N0 := m.nx) (ef := ef) (m := m0) (sel := fun j => listed.getD j false) ops.size hfr
              rw [show Nat.blt i F = true by simpa [Nat.blt_eq] using hiF] at hstep
              -- what was made before
              have hbefore : ∀ j, j < ops.size → bitOf (masks ops.toList []) i j = true → listed.getD j false = true := fun j _ hb => mask_before hc hi0 hoi j hb
              have hF' : ∀ j, j < i → FrontE m.nx ef j := fun j hj => (hfrontE j (by omega) (by omega)).1
              obtain ⟨z1, z2, z3⟩ := ES_front (N0 := m.nx) (ef := ef) (m := m0) (sel := fun _ => true) i fun j hj _ => hF' j hj
              have hah : NewAhead m.nx (ESel ef m0 (fun _ => true) i).bl := ESel_ahead (by rw [hM0b]; exact blocksB_ahead hnm) i fun j hj _ => hF' j hj
              have hmil : ∀ k, look (miB ops m.nx i (ESel ef m0 (fun _ => true) i)).bl k = if k < m.nx then look m0.bl k else if bitOf (masks ops.toList []) i (k - m.nx) = true then look (ESel ef m0 (fun _ => true) i).bl k else none := fun k => by
                unfold miB
                rw [filtB_look hah]
                by_cases hk : k < m.nx
                · rw [if_pos hk, if_pos hk, z2 k hk]
                · rw [if_neg hk, if_neg hk]
              have hmin : (miB ops m.nx i (ESel ef m0 (fun _ => true) i)).nx = m0.nx := z1
              generalize hMI : miB ops m.nx i (ESel ef m0 (fun _ => true) i) = mi at *
              have hmi : ∀ k b, look mi.bl k = some b → look (ESel ef m0 (fun j => listed.getD j false) ops.size).bl k = some b ∧ (k < m.nx ∨ ∃ j, k = m.nx + j ∧ j < i ∧ addOf (ef j) = some b) := fun k b hk => by
                rw [hmil k] at hk
                by_cases hkn : k < m.nx
                · rw [if_pos hkn] at hk
                  rw [x2 k hkn]
                  exact ⟨hk, .inl hkn⟩
                · rw [if_neg hkn] at hk
                  obtain ⟨j, rfl⟩ : ∃ j, k = m.nx + j := ⟨k - m.nx, by omega⟩
                  rw [show m.nx + j - m.nx = j by omega] at hk
                  split at hk
                  · rename_i hbit
                    rw [z3 j] at hk
                    split at hk
                    · rename_i hj
                      rw [x3 j, if_pos ⟨by omega, hbefore j (by omega) hbit, by rw [hk]; rfl⟩]
                      exact ⟨hk, .inr ⟨j, rfl, hj.1, hk⟩⟩
                    · rw [hno j] at hk; cases hk
                  · cases hk
              have hm0 : MRel ρ1 mi w1 := g3.less (by rw [x1, hmin]; exact Nat.le_refl _) fun l b hl => (hmi l b hl).1
              have hadd : ∀ l b, look (ESel ef m0 (fun j => listed.getD j false) ops.size).bl l = some b → look mi.bl l = some b ∨ b.wr = true ∧ look mi.bl l = none := fun l b hl => by
                rcases Nat.lt_or_ge l m.nx with h1 | h1
                · rw [x2 l h1] at hl
                  exact .inl (by rw [hmil, if_pos h1]; exact hl)
                · obtain ⟨j, rfl⟩ : ∃ j, l = m.nx + j := ⟨l - m.nx, by omega⟩
                  rw [x3 j] at hl
                  split at hl
                  · rename_i hj
                    have h2 : j < F := by
                      rcases Nat.lt_or_ge j F with h2 | h2
                      · exact h2
                      · have := hj.2.2
                        rw [(hnoS j h2 hj.1 hj.2.1).1] at this
                        cases this
                    rw [hmil, if_neg (by omega), show m.nx + j - m.nx = j by omega]
                    by_cases hbit : bitOf (masks ops.toList []) i j = true
                    · rw [if_pos hbit, z3 j]
                      by_cases hji : j < i
                      · rw [if_pos ⟨hji, rfl, hj.2.2⟩]; exact .inl hl
                      · rw [if_neg (fun h => hji h.1), hno j]
                        exact .inr ⟨((hfrontE j hj.1 h2).2.2 b hl).2.1, rfl⟩
                    · rw [if_neg hbit]
                      exact .inr ⟨((hfrontE j hj.1 h2).2.2 b hl).2.1, rfl⟩
                  · rw [hno j] at hl; cases hl
              -- nothing that is there names what is not
              have hpj : ∀ j, j < ops.size → listed.getD j false = true → pB (masks ops.toList []) ops.size m.nx j (m.nx + i) = false := fun j hj hs => by
                unfold pB
                rw [show Nat.blt (m.nx + i) m.nx = false by
                  cases e : Nat.blt (m.nx + i) m.nx with
                  | false => rfl
                  | true => have : m.nx + i < m.nx := by simpa [Nat.blt_eq] using e
                            omega]
                dsimp only
                rw [show Nat.beq (m.nx + i) (m.nx + j) = false by
                  cases e : Nat.beq (m.nx + i) (m.nx + j) with
                  | false => rfl
                  | true =>
                    have e := Nat.eq_of_beq_eq_true e
                    have : i = j := by omega
                    rw [← this, hif] at hs
                    cases hs]
                dsimp only
                rw [show Nat.ble (m.nx + ops.size) (m.nx + i) = false by
                  cases e : Nat.ble (m.nx + ops.size) (m.nx + i) with
                  | false => rfl
                  | true => have := Nat.le_of_ble_eq_true e
                            omega]
                dsimp only
                rw [show m.nx + i - m.nx = i by omega]
                cases hb : bitOf (masks ops.toList []) j i with
                | false => rfl
                | true =>
                  have hoj : ops[j]? = some ops[j] := Array.getElem?_eq_getElem hj
                  rw [mask_behind hc hif j _ hoj hb] at hs
                  cases hs
              rcases stepB_front hstep with ⟨b, m2, hs, hlk2, hbw, hbok, hbl, hvok, hvl, he⟩ | ⟨hs, hvl, he⟩
              · rw [hMI] at hs
                have hlnx : m.nx + i < (ESel ef m0 (fun j => listed.getD j false) ops.size).nx := by rw [x1, hM0n]; omega
                have hlno : look (ESel ef m0 (fun j => listed.getD j false) ops.size).bl (m.nx + i) = none := by
                  rw [x3 i, if_neg (by rw [hif]; simp)]
                  exact hno i
                have hloc : ∀ k bk, look (ESel ef m0 (fun j => listed.getD j false) ops.size).bl k = some bk → bk.cont.offB (m.nx + i) = true := fun l bk hl => by
                  rcases Nat.lt_or_ge l m.nx with h1 | h1
                  · rw [x2 l h1, hM0b] at hl
                    exact Cont.locs_off (by omega) (blocksB_look hlb hl).2
                  · obtain ⟨j, rfl⟩ : ∃ j, l = m.nx + j := ⟨l - m.nx, by omega⟩
                    rw [x3 j] at hl
                    split at hl
                    · rename_i hj
                      rcases Nat.lt_or_ge j F with h2 | h2
                      · exact Cont.ok_off (hpj j hj.1 hj.2.1) ((hfrontE j hj.1 h2).2.2 bk hl).1
                      · have := hj.2.2
                        rw [(hnoS j h2 hj.1 hj.2.1).1] at this
                        cases this
                    · rw [hno j] at hl; cases hl
                have hms : MRel ρ1 ⟨roB mi.bl, m.nx + i⟩ w1 := hm0.roB fun k b hk => by
                  rw [hmil k] at hk
                  by_cases hkn : k < m.nx
                  · rw [if_pos hkn] at hk
                    have h5 := blocksB_look hlb (by rw [← hM0b]; exact hk)
                    exact ⟨by omega, Cont.locs_up (by omega) h5.2⟩
                  · rw [if_neg hkn] at hk
                    obtain ⟨j, rfl⟩ : ∃ j, k = m.nx + j := ⟨k - m.nx, by omega⟩
                    split at hk
                    · rw [z3 j] at hk
                      split at hk
                      · rename_i hj
                        exact ⟨by omega, Cont.locs_up (by omega) ((hfrontE j (by omega) (by omega)).2.2 b hk).2.2⟩
                      · rw [hno j] at hk; cases hk
                    · cases hk
                have hlooks' : ∀ t, t ∈ oi.looksAt ops → (downA (m.nx + i) (TS d v tm (fun j => listed.getD j false) ops.size)).getD t .unk = (downA (m.nx + i) (TS d v tm (fun _ => true) i)).getD t .unk := fun t ht => by
                  rw [downA_getD, downA_getD, hlooks t ht]
                refine stepA_ok hE hoi (by rw [stepA_congr hlooks']; exact hs) (downA_rels g1) (fun i1 t w g u h1 => hGI i1 t w g u (downA_gd h1)) hms hbsi' (fun hvi ρ2 w2 x hx hm2 hmv => ?_) rnd fu
                obtain ⟨ρ3, r2, r3, r4, r5⟩ := new_at (N0 := m.nx) g3 hlnx hlno (by omega) hloc (fun k bk hk => (roB_look hk).1) hm2 hmv hlk2 hbw hbl hvl hx
                have hoff : AV.offsB (m.nx + i) (TS d v tm (fun j => listed.getD j false) ops.size) = true := TS_off (locsBs_off hlt (by omega)) _ fun j hj hsl => by
                  rcases Nat.lt_or_ge j F with h2 | h2
                  · exact AV.ok_off (hpj j hj hsl) _ (hfrontE j hj h2).2.1
                  · exact AV.ok_off (hpj j hj hsl) _ (hnoS j h2 hj hsl).2
                have hfr' : ∀ j, j < ops.size → (listed.setIfInBounds i true).getD j false = true → FrontE m.nx ef j := fun j hj hs => by
                  rw [hset] at hs
                  split at hs
                  · rename_i e; subst e; exact .inr ⟨b, he⟩
                  · exact hfr j hj hs
                obtain ⟨y1, y2, y3⟩ := ES_front (N0 := m.nx) (ef := ef) (m := m0) (sel := fun j => (listed.setIfInBounds i true).getD j false) ops.size hfr'
                have hlk : ∀ l, look (ESel ef m0 (fun j => (listed.setIfInBounds i true).getD j false) ops.size).bl l = look ((m.nx + i, some b) :: (ESel ef m0 (fun j => listed.getD j false) ops.size).bl) l := fun l => by
                  rw [look_cons]
                  rcases Nat.lt_or_ge l m.nx with h1 | h1
                  · rw [if_neg (by omega), y2 l h1, x2 l h1]
                  · obtain ⟨j, rfl⟩ : ∃ j, l = m.nx + j := ⟨l - m.nx, by omega⟩
                    rw [y3 j]
                    by_cases e : j = i
                    · subst e
                      rw [if_pos rfl, if_pos ⟨his, by rw [hset]; simp, by rw [he]; rfl⟩, he]
                      rfl
                    · rw [x3 j, hset, if_neg e, if_neg (show ¬ m.nx + i = m.nx + j by omega)]
                refine cont x w2 ρ3 hvi ?_ ?_ ?_ ?_
                · rw [y1, ← x1]
                  exact AV.rels.off r2 _ _ hoff g1
                · rw [y1, ← x1]
                  exact r3
                · exact r4.less (by rw [y1, ← x1]; exact Nat.le_refl _) fun l bk hl => by rw [hlk l] at hl; exact hl
                · have hmv : Moves B ρ1 ρ3 (ESel ef m0 (fun j => listed.getD j false) ops.size) ⟨(m.nx + i, some b) :: (ESel ef m0 (fun j => listed.getD j false) ops.size).bl, (ESel ef m0 (fun j => listed.getD j false) ops.size).nx⟩ w1 w2 := r5.base hB
                  have := g4.trans hmv
                  exact ⟨this.ext, by rw [y1, hM0n]; omega, this.os, this.tape, this.output, this.size, this.keep, fun g ⟨l, bk, h1, h2, h3⟩ => this.fresh g ⟨l, bk, by rw [hlk l] at h1; exact h1, h2, h3⟩⟩
              · rw [hMI] at hs
                have hES : ESel ef m0 (fun j => (listed.setIfInBounds i true).getD j false) ops.size = ESel ef m0 (fun j => listed.getD j false) ops.size := ESel_no he (fun j hj => by rw [hset, if_neg hj]) _
                refine stepA_ok hE hoi (by rw [stepA_congr hlooks]; exact hs) (by rw [hmin, ← x1]; exact g1) hGI hm0 hbsi' (fun hvi ρ2 w2 x hx hm2 hmv => ?_) rnd fu
                have hmnx : mi.nx = (ESel ef m0 (fun j => listed.getD j false) ops.size).nx := by rw [hmin, x1]
                have hsub : ∀ l b, look mi.bl l = some b → look (ESel ef m0 (fun j => listed.getD j false) ops.size).bl l = some b := fun l b hl => (hmi l b hl).1
                have hf := MRel.frame g3 hmnx hsub hadd hm2 hmv
                have hmf := Moves.frame g3 hmnx hsub hmv
                refine cont x w2 ρ2 hvi ?_ ?_ ?_ ?_
                · rw [hES]
                  exact AV.rels.ext hmf.ext (Nat.le_refl _) _ _ g1
                · rw [hES, ← hmnx]
                  exact hx
                · rw [hES]; exact hf
                · rw [hES]; exact g4.trans (hmf.base g4.nx)
            · have hbefore : ∀ j, j < i → listed.getD j false = true ∨ ef j = .no := fun j hj => by
                have hoj : ops[j]? = some ops[j] := Array.getElem?_eq_getElem (by omega)
                cases hb : bitOf (masks ops.toList []) i j with
                | true => exact .inl (mask_before hc hi0 hoi j hb)
                | false =>
                  rcases (hpr j i _ oi hj hoj hoi hb).2 with h | h | h
                  · exact absurd h hiF
                  · exact .inr (hpureE j _ hoj h).1
                  · rw [hpi] at h; cases h
              have hafter : ∀ j, i < j → j < ops.size → listed.getD j false = false ∨ ef j = .no := fun j h1 h2 => by
                cases hl : listed.getD j false with
                | false => exact .inl rfl
                | true => exact .inr (hback listed hc i oi hoi hpi hif j h1 h2 (by omega) hl).1
              have hES : ESel ef m0 (fun j => listed.getD j false) ops.size = ESel ef m0 (fun _ => true) i := by
                rw [ESel_eff (sel' := fun j => decide (j < i)) ops.size (fun j hj => by
                  rcases Nat.lt_trichotomy j i with h | h | h
                  · exact (hbefore j h).imp (fun g => by rw [g, decide_eq_true h]) id
                  · exact .inl (by rw [h, hif]; simp)
                  · exact (hafter j h hj).imp (fun g => by rw [g, decide_eq_false (by omega)]) id)]
                rw [ESel_cut (i := i) ops.size (by omega) (fun j h1 h2 => decide_eq_false (by omega))]
                exact ESel_same i fun j hj => decide_eq_true hj
              have hES' : ESel ef m0 (fun j => (listed.setIfInBounds i true).getD j false) ops.size = (ef i).on (ESel ef m0 (fun _ => true) i) := by
                rw [ESel_eff (sel' := fun j => decide (j < i + 1)) ops.size (fun j hj => by
                  rw [hset]
                  rcases Nat.lt_trichotomy j i with h | h | h
                  · rw [if_neg (by omega)]
                    exact (hbefore j h).imp (fun g => by rw [g, decide_eq_true (by omega)]) id
                  · rw [if_pos h]; exact .inl (by rw [decide_eq_true (by omega)])
                  · rw [if_neg (by omega)]
                    exact (hafter j h hj).imp (fun g => by rw [g, decide_eq_false (by omega)]) id)]
                rw [ESel_cut (i := i + 1) ops.size (by omega) (fun j h1 h2 => decide_eq_false (by omega))]
                simp only [ESel]
                rw [if_pos (decide_eq_true (by omega))]
                congr 1
                exact ESel_same i fun j hj => decide_eq_true (by omega)
              rw [show Nat.blt i F = false by
                cases hh : Nat.blt i F with
                | false => rfl
                | true => exact absurd (by simpa [Nat.blt_eq] using hh) hiF] at hstep
              obtain ⟨mo, hs, hmo, _⟩ := stepB_back hstep
              rw [hES] at g1 g3 g4
              refine stepA_ok hE hoi (by rw [stepA_congr hlooks]; exact hs) g1 hGI g3 hbsi' (fun hvi ρ2 w2 x hx hm2 hmv => ?_) rnd fu
              refine cont x w2 ρ2 hvi ?_ ?_ ?_ ?_
              · rw [hES', hmo]
                exact AV.rels.ext hmv.ext hmv.nx _ _ g1
              · rw [hES', hmo]; exact hx
              · rw [hES', hmo]; exact hm2
              · rw [hES', hmo]; exact g4.trans (hmv.base g4.nx)
      have z0 : ∀ i, (Array.replicate ops.size false).getD i false = false := fun i => getD_replicate_false _ i
      have z1 : TS d v tm (fun i => (Array.replicate ops.size false).getD i false) ops.size = tm := by
        have : ∀ n, TS d v tm (fun i => (Array.replicate ops.size false).getD i false) n = tm := by
          intro n
          induction n with
          | zero => rfl
          | succ n ih => simp only [TS]; rw [if_neg (by rw [z0]; exact Bool.false_ne_true), ih]
        exact this _
      have z2 : ESel ef m0 (fun i => (Array.replicate ops.size false).getD i false) ops.size = m0 := by
        have : ∀ n, ESel ef m0 (fun i => (Array.replicate ops.size false).getD i false) n = m0 := by
          intro n
          induction n with
          | zero => rfl
          | succ n ih => simp only [ESel]; rw [if_neg (by rw [z0]; exact Bool.false_ne_true), ih]
        exact this _
      have hd0 := Moves.drew (ρ := ρ) (m := m) (w := w) hB
      refine key ops.size _ _ _ ⟨by simp, fun j oj _ hl => by rw [z0] at hl; cases hl⟩ (by simp) (by rw [z1]; exact fun i t w g u hi => absurd hi (hnogd i t w g u)) (by rw [z1]; exact fun i t w g u hi => absurd hi (hnogd i t w g u)) ⟨ρ, ?_, rfl, ?_, ?_⟩
      · rw [z1, z2]; exact ht.up (by rw [hM0n]; omega)
      · rw [z2]; exact hmr.drew.less (by rw [hM0n]; omega) fun l b hl => by rw [hM0b] at hl; exact hl
      · rw [z2]
        exact ⟨hd0.ext, by rw [hM0n]; omega, hd0.os, hd0.tape, hd0.output, hd0.size, hd0.keep, fun g ⟨l, b, h1, h2, h3⟩ => hd0.fresh g ⟨l, b, by rw [hM0b] at h1; exact h1, h2, h3⟩⟩
    · cases h
/-- In the text's order with effects apart; else with places made at any time. -/
def drawAB (P : Program) (E : Env) (ops : Array Oper) (tm : List AV) (m : MS) : Option (List AV × MS × List Bool) := match drawA P E ops tm m with
  | some r => some r
  | none => drawB P E ops tm m
theorem drawAB_ok (hE : ESound P E) (hm : MixedOk P) : DSound P (drawAB P E) := by
  intro rid ops tm m tm' m' bs h
  unfold drawAB at h
  cases hA : drawA P E ops tm m with
  | some r => rw [hA] at h; cases h; exact drawA_ok hE hm rid ops tm m tm' m' bs hA
  | none => rw [hA] at h; exact drawB_ok hE hm rid ops tm m tm' m' bs h
end
end Go.Proofs.YtnkpegdmbocgaaaDoor
