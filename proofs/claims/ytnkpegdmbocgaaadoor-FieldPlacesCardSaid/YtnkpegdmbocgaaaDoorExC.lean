/-
  Regions whose order is open, with places made at any time: the rule.
-/
import Derived.Test.YtnkpegdmbocgaaaDoorExB
namespace Go.Proofs.YtnkpegdmbocgaaaDoor
open Go Go.RowKit
section
variable {ops : Array Oper} {d : Nat → Option Tmp} {v : Nat → AV} {tm : List AV} {listed : Array Bool} {i : Nat} {oi : Oper}
/-- What stands in the masks is listed; what waits is not. -/
theorem mask_before (hc : ClosedL ops listed) (hi : i ∈ Region.ready .any ops listed) (hoi : ops[i]? = some oi) : ∀ j, bitOf (masks ops.toList []) i j = true → listed.getD j false = true := fun j hj => by
  obtain ⟨_, o', ho', hdep⟩ := mem_ready.1 hi
  have : o' = oi := Option.some.inj (ho'.symm.trans hoi)
  subst this
  have hml : (masks ops.toList []).length = ops.size := by
    have := (masks_ok (listed := listed) ops.toList [] [] rfl (by simpa using hc) (fun i o _ h => by simp at h)).2
    simpa using this
  exact masks_listed hc i o' (by simpa using hoi) (by rw [hml]; exact (Array.getElem?_eq_some_iff.1 hoi).1) hdep j hj
theorem mask_behind (hc : ClosedL ops listed) (hif : listed.getD i false = false) : ∀ j oj, ops[j]? = some oj → bitOf (masks ops.toList []) j i = true → listed.getD j false = false := fun j oj hoj hj => by
  cases hl : listed.getD j false with
  | false => rfl
  | true =>
    have hml : (masks ops.toList []).length = ops.size := by
      have := (masks_ok (listed := listed) ops.toList [] [] rfl (by simpa using hc) (fun i o _ h => by simp at h)).2
      simpa using this
    have := masks_listed hc j oj (by simpa using hoj) (by rw [hml]; exact (Array.getElem?_eq_some_iff.1 hoj).1) (fun e he hb => hc.2 j oj hoj hl e he hb) i hj
    rw [hif] at this
    cases this
theorem TS_looks (hc : ClosedL ops listed) (hi : i ∈ Region.ready .any ops listed) (hoi : ops[i]? = some oi) (hif : listed.getD i false = false) (hdn : ∀ i t, d i = some t → ∃ o, ops[i]? = some o ∧ o.dst = some t)
    (hap : ∀ i j oi oj, i < j → ops[i]? = some oi → ops[j]? = some oj → bitOf (masks ops.toList []) j i = false → Oper.apart ops oi oj = true) :
    ∀ t, t ∈ oi.looksAt ops → (TS d v tm (fun i => listed.getD i false) ops.size).getD t .unk = (TS d v tm (fun _ => true) i).getD t .unk := fun t ht => by
  have his : i < ops.size := (Array.getElem?_eq_some_iff.1 hoi).1
  have hcut : ∀ n, i ≤ n → (TS d v tm (fun j => decide (j < i)) n).getD t .unk = (TS d v tm (fun _ => true) i).getD t .unk := by
    intro n hn
    induction n with
    | zero => have : i = 0 := by omega
              subst this; rfl
    | succ n ihn =>
      by_cases hin : i = n + 1
      · subst hin
        exact TS_same _ fun j hj _ => by simpa using hj
      · have := ihn (by omega)
        rw [← this]
        simp only [TS]
        rw [if_neg (by simp; omega)]
  rw [← hcut ops.size (by omega)]
  refine TS_same _ fun j hj hdj => ?_
  obtain ⟨oj, hoj, hdj'⟩ := hdn j t hdj
  by_cases hji : j = i
  · subst hji; rw [hif]; simp
  · rcases Nat.lt_or_ge j i with hlt | hge
    · cases hb : bitOf (masks ops.toList []) i j with
      | true => rw [mask_before hc hi hoi j hb]; simp [hlt]
      | false => exact absurd ht ((apart_looks (hap j i oj oi hlt hoj hoi hb)).1 t hdj')
    · have hgt : i < j := by omega
      cases hb : bitOf (masks ops.toList []) j i with
      | true => rw [mask_behind hc hif j oj hoj hb]; simp; omega
      | false => exact absurd ht ((apart_looks (hap i j oi oj hgt hoi hoj hb)).2.2 t hdj')
theorem set_getD (hil : i < listed.size) : ∀ j, (listed.setIfInBounds i true).getD j false = if j = i then true else listed.getD j false := fun j => by
  by_cases hji : j = i
  · subst hji; simp [hil]
  · rw [getD_set_ne false (Ne.symm hji), if_neg hji]
theorem TS_put (hc : ClosedL ops listed) (hoi : ops[i]? = some oi) (hif : listed.getD i false = false) (hdi : d i = oi.dst) (hdn : ∀ i t, d i = some t → ∃ o, ops[i]? = some o ∧ o.dst = some t)
    (hap : ∀ i j oi oj, i < j → ops[i]? = some oi → ops[j]? = some oj → bitOf (masks ops.toList []) j i = false → Oper.apart ops oi oj = true) :
    TS d v tm (fun j => (listed.setIfInBounds i true).getD j false) ops.size = putA (TS d v tm (fun j => listed.getD j false) ops.size) oi.dst (v i) := by
  have his : i < ops.size := (Array.getElem?_eq_some_iff.1 hoi).1
  have hset := set_getD (listed := listed) (i := i) (by rw [hc.1]; exact his)
  refine ext_getD (by rw [TS_len, putA_len, TS_len]) fun t => ?_
  rw [putA_getD, TS_len]
  by_cases hdt : oi.dst = some t
  · rw [TS_last (i := i) (by rw [hset]; simp) (by rw [hdi]; exact hdt) ops.size his (fun j hij hj hdj => ?_)]
    · by_cases hl : t < tm.length
      · rw [if_pos hl, if_pos ⟨hdt, hl⟩]
      · rw [if_neg hl, if_neg (fun h => hl h.2)]
        have hle : (TS d v tm (fun j => listed.getD j false) ops.size).length ≤ t := by rw [TS_len]; exact Nat.le_of_not_lt hl
        rw [List.getD_eq_getElem?_getD, List.getElem?_eq_none hle]; rfl
    · rw [hset, if_neg (by omega)]
      obtain ⟨oj, hoj, hdj'⟩ := hdn j t hdj
      cases hb : bitOf (masks ops.toList []) j i with
      | true => exact mask_behind hc hif j oj hoj hb
      | false => exact absurd hdj' ((apart_looks (hap i j oi oj hij hoi hoj hb)).2.1 t hdt)
  · rw [if_neg (fun h => hdt h.1)]
    refine TS_same _ fun j hj hdj => ?_
    rw [hset, if_neg]
    intro e
    subst e
    rw [hdi] at hdj
    exact hdt hdj
end
/-- What an operation does to memory. -/
inductive Eff where
  | no
  | add (l : Nat) (b : ABlk)
  | put (m : MS)
def Eff.on : Eff → MS → MS
  | .no, m => m
  | .add l b, m => ⟨(l, some b) :: m.bl, m.nx⟩
  | .put m', _ => m'
def ESel (ef : Nat → Eff) (m : MS) (sel : Nat → Bool) : Nat → MS
  | 0 => m
  | k + 1 => if sel k then (ef k).on (ESel ef m sel k) else ESel ef m sel k
abbrev TrB := AV × Eff × List Bool
def freshB (p : Nat → Bool) (l : Nat) (v : AV) (m' : MS) : Option ABlk := match look m'.bl l with
  | some b => match b.wr && (b.cont.okB p && (b.cont.locsB l && (v.okB p && v.locsB (l + 1)))) with
    | true => some b
    | false => none
  | none => none
def miB (ops : Array Oper) (N0 i : Nat) (m : MS) : MS := ⟨filtB (masks ops.toList []) N0 i m.bl, m.nx⟩
def stepB (P : Program) (E : Env) (ops : Array Oper) (N0 : Nat) (fr : Bool) (i : Nat) (o : Oper) (tm : List AV) (m : MS) : Option TrB := match fr with
  | true => match stepA P E ops o tm (miB ops N0 i m) with
    | some (v, none, bs) => match v.okB (pB (masks ops.toList []) ops.size N0 i) with
      | true => some (v, .no, bs)
      | false => none
    | some (_, some _, _) => match stepA P E ops o (downA (N0 + i) tm) ⟨roB (miB ops N0 i m).bl, N0 + i⟩ with
      | some (v, some m', bs) => match freshB (pB (masks ops.toList []) ops.size N0 i) (N0 + i) v m' with
        | some b => some (v, .add (N0 + i) b, bs)
        | none => none
      | _ => none
    | none => none
  | false => match stepA P E ops o tm m with
    | some (v, some m', bs) => some (v, .put m', bs)
    | some (v, none, bs) => match pureB o && !v.okB (pB (masks ops.toList []) ops.size N0 i) with
      | true => none
      | false => some (v, .no, bs)
    | none => none
def traceB (P : Program) (E : Env) (ops : Array Oper) (N0 F : Nat) : List Oper → Nat → List AV → MS → Option (List TrB)
  | [], _, _, _ => some []
  | o :: r, i, tm, m => match stepB P E ops N0 (Nat.blt i F) i o tm m with
    | some (v, e, bs) => match traceB P E ops N0 F r (i + 1) (putA tm o.dst v) (e.on m) with
      | some t => some ((v, e, bs) :: t)
      | none => none
    | none => none
def finB (ops : List Oper) (ts : List TrB) (tm : List AV) (m : MS) : List AV × MS × List Bool := match ops, ts with
  | o :: r, (v, e, bs) :: t => match finB r t (putA tm o.dst v) (e.on m) with
    | (tm', m', bs') => (tm', m', bs ++ bs')
  | _, _ => (tm, m, [])
def vB (ts : List TrB) (i : Nat) : AV := (ts.getD i (.unk, .no, [])).1
def eB (ts : List TrB) (i : Nat) : Eff := (ts.getD i (.unk, .no, [])).2.1
theorem traceB_ok {P : Program} {E : Env} {ops : Array Oper} {N0 F : Nat} : ∀ (r pre : List Oper) (tp : List TrB) (tm0 tm : List AV) (m0 m : MS) (ts : List TrB), pre ++ r = ops.toList → tp.length = pre.length →
    tm = TS (dOf ops) (vB (tp ++ ts)) tm0 (fun _ => true) pre.length → m = ESel (eB (tp ++ ts)) m0 (fun _ => true) pre.length →
    traceB P E ops N0 F r pre.length tm m = some ts →
    ts.length = r.length ∧ (finB r ts tm m).1 = TS (dOf ops) (vB (tp ++ ts)) tm0 (fun _ => true) ops.toList.length ∧ (finB r ts tm m).2.1 = ESel (eB (tp ++ ts)) m0 (fun _ => true) ops.toList.length ∧
    ∀ i o, pre.length ≤ i → ops.toList[i]? = some o → ∃ bs, stepB P E ops N0 (Nat.blt i F) i o (TS (dOf ops) (vB (tp ++ ts)) tm0 (fun _ => true) i) (ESel (eB (tp ++ ts)) m0 (fun _ => true) i) = some (vB (tp ++ ts) i, eB (tp ++ ts) i, bs) ∧ ∀ b ∈ bs, b ∈ (finB r ts tm m).2.2
  | [], pre, tp, tm0, tm, m0, m, ts, hp, hl, ht, hm, h => by
    cases h
    have e : ops.toList.length = pre.length := by rw [← hp]; simp
    refine ⟨rfl, ?_, ?_, fun i o hi ho => ?_⟩
    · rw [e, ← ht]; rfl
    · rw [e, ← hm]; rfl
    · have := (List.getElem?_eq_some_iff.1 ho).1
      omega
  | o :: r, pre, tp, tm0, tm, m0, m, ts, hp, hl, ht, hm, h => by
    simp only [traceB] at h
    cases hs : stepB P E ops N0 (Nat.blt pre.length F) pre.length o tm m with
    | none => rw [hs] at h; cases h
    | some q =>
      obtain ⟨v, e, bs⟩ := q
      rw [hs] at h
      dsimp only at h
      cases hr : traceB P E ops N0 F r (pre.length + 1) (putA tm o.dst v) (e.on m) with
      | none => rw [hr] at h; cases h
      | some t =>
        rw [hr] at h
        cases h
        have ho : ops.toList[pre.length]? = some o := by rw [← hp]; simp
        have hd : dOf ops pre.length = o.dst := by unfold dOf; rw [ho]; rfl
        have hv : vB (tp ++ (v, e, bs) :: t) pre.length = v := by unfold vB; rw [← hl]; simp
        have he : eB (tp ++ (v, e, bs) :: t) pre.length = e := by unfold eB; rw [← hl]; simp
        have e1 : tp ++ (v, e, bs) :: t = (tp ++ [(v, e, bs)]) ++ t := by simp
        have ht' : putA tm o.dst v = TS (dOf ops) (vB (tp ++ (v, e, bs) :: t)) tm0 (fun _ => true) (pre ++ [o]).length := by
          simp only [List.length_append, List.length_singleton, TS, if_true, hd, hv, ← ht]
        have hm' : e.on m = ESel (eB (tp ++ (v, e, bs) :: t)) m0 (fun _ => true) (pre ++ [o]).length := by
          simp only [List.length_append, List.length_singleton, ESel, if_true, he, ← hm]
        have hr' : traceB P E ops N0 F r (pre ++ [o]).length (putA tm o.dst v) (e.on m) = some t := by simpa using hr
        obtain ⟨g1, g2, g3, g4⟩ := traceB_ok r (pre ++ [o]) (tp ++ [(v, e, bs)]) tm0 (putA tm o.dst v) m0 (e.on m) t (by rw [← hp]; simp) (by simp [hl]) (by rw [← e1]; exact ht') (by rw [← e1]; exact hm') hr'
        rw [← e1] at g2 g3 g4
        refine ⟨by simp [g1], ?_, ?_, fun i oi hi hoi => ?_⟩
        · rw [← g2]; simp only [finB]
        · rw [← g3]; simp only [finB]
        · by_cases hip : i = pre.length
          · subst hip
            rw [ho] at hoi
            cases hoi
            refine ⟨bs, ?_, fun b hb => by simp only [finB]; simp [hb]⟩
            rw [← ht, ← hm, hv, he]
            exact hs
          · obtain ⟨bs', h1, h2⟩ := g4 i oi (by simp; omega) hoi
            refine ⟨bs', h1, fun b hb => ?_⟩
            have := h2 b hb
            simp only [finB]
            simp [this]
def isStore (o : Oper) : Bool := match o.op with
  | .store .. => true
  | _ => false
def frontN : List Oper → Nat
  | [] => 0
  | o :: r => match isStore o with
    | true => 0
    | false => frontN r + 1
/-- All that stands ahead of one behind the front is ahead of it in every order; in front nothing gets in the way of another. -/
def pairsB (ops : Array Oper) (ms : List Nat) (F : Nat) (l : List Oper) : Bool :=
  (List.range l.length).all fun j => (List.range j).all fun i => bitOf ms j i || (match l[i]?, l[j]? with
    | some x, some y => Oper.apart ops x y && (Nat.blt j F || (pureB x || pureB y))
    | _, _ => false)
/-- All names are old ones. -/
def namesB (n : Nat) : List (Nat × Option ABlk) → Bool
  | [] => true
  | (k, _) :: r => Nat.blt k n && namesB n r
def drawB (P : Program) (E : Env) (ops : Array Oper) (tm : List AV) (m : MS) : Option (List AV × MS × List Bool) :=
  match traceB P E ops m.nx (frontN ops.toList) ops.toList 0 tm ⟨m.bl, m.nx + ops.size⟩ with
  | some ts => match Region.noSelect ops && (edgesOk ops.toList && (guardsOk ops.toList && (guardsAhead (masks ops.toList []) ops.toList && (pairsB ops (masks ops.toList []) (frontN ops.toList) ops.toList && (AV.locsBs m.nx tm && (blocksB m.nx m.bl && namesB m.nx m.bl)))))) with
    | true => some (finB ops.toList ts tm ⟨m.bl, m.nx + ops.size⟩)
    | false => none
  | none => none
end Go.Proofs.YtnkpegdmbocgaaaDoor
