/-
  A meter: contracts of its methods, at a meter and at none.
-/
import Derived.Test.YtanfjgkohhlcoaaWM
import Derived.Test.YtanfjgkohhlcoaaMA
import Derived.Test.YtanfjgkohhlcoaaExO
import Derived.Test.YtanfjgkohhlcoaaExH
import Derived.Test.YtanfjgkohhlcoaaExI
namespace Go.Proofs.Ytanfjgkohhlcoaa
open Go Go.RowKit
theorem lift_p {P : Program} {f : FuncId} {m m1' : MS} {args : List AV} {v : AV} {l wd r c : Nat} {b : ABlk} {ar br : List AV} (hl : look m.bl l = some b) (hg : b.cont.ground = true)
    (h : FSound P f ⟨[(0, some ⟨false, false, b.cont⟩)], 1⟩ (ar ++ .ptr 0 wd r c :: br) v m1') (hx : args = ar ++ .ptr l wd r c :: br) (ha : AV.grounds ar = true) (hb : AV.grounds br = true) (hv : v.ground = true) : FSound P f m args v m := by
  refine lift_pure h rfl hv fun ρ w xs hm hr => ?_
  subst hx
  refine ⟨fun _ => ρ l, hm.views (fun _ => l) (fun k b1 hk => ?_), ?_⟩
  · obtain ⟨rfl, rfl⟩ := look_one hk
    exact ⟨by show (0 : Nat) < 1; omega, rfl, rfl, hg, b, hl, rfl⟩
  · obtain ⟨ys, zs, rfl, h1, h2⟩ := hr.split
    simp only [AV.rels] at h2
    obtain ⟨y, zs', rfl, h2, h3⟩ := h2
    refine AV.rels.append (AV.grounds_rels _ _ ha h1) ?_
    simp only [AV.rels]
    refine ⟨y, zs', rfl, ?_, AV.grounds_rels _ _ hb h3⟩
    simp only [AV.rel] at h2 ⊢
    exact ⟨by show (0 : Nat) < 1; omega, h2.2⟩
abbrev mtK (a b c d h g : Int) : Cont := .cells [vu a, vu b, vu c, vu d, vi h, vi g]
abbrev mtW (a b c d h g : Int) : MS := ⟨[(0, some ⟨true, false, mtK a b c d h g⟩)], 1⟩
abbrev mtR (a b c d h g : Int) : MS := ⟨[(0, some ⟨false, false, mtK a b c d h g⟩)], 1⟩
abbrev mtZ (a b c d h g : Int) : MS := ⟨[(0, some ⟨true, false, mtK a b c d h g⟩)], 99⟩
def L_mt : List (FuncId × Spec) := L_haymowlaw07_kind
theorem hE_mt : ESound Try.prog (envOf L_mt) := hE_haymowlaw07_kind
theorem max_bif (x y : Int) : max x y = bif decide (x < y) then y else x := by
  by_cases h : x < y
  · rw [decide_eq_true h]; simp only [cond_true]; omega
  · rw [decide_eq_false h]; simp only [cond_false]; omega
def L_op (P : Program) (f : Func) : List (FuncId × Spec) := (84, inl P L_mt f) :: L_mt
theorem hE_op : ESound Try.prog (envOf (L_op Try.prog Try.f84)) := env_cons (inl_ok hE_mt mixed (fun xs w => Try.call84 xs w) Try.func84 rfl) hE_mt
theorem hold_run (a b c d h g n : Int) : F_ Try.prog (L_op Try.prog Try.f84) Try.f56 [] [0] 99 [.ptr 0 1 0 0, vi n] (mtW a b c d h g) =
    some (.ret (vi (haymowref07_Hold_2 a b c d h g n)) (mtZ a b c d (haymowref07_Hold_0 a b c d h g n) (haymowref07_Hold_1 a b c d h g n)) true) := by
  have e : F_ Try.prog (L_op Try.prog Try.f84) Try.f56 [] [0] 99 [.ptr 0 1 0 0, vi n] (mtW a b c d h g) = bif decide (n < 0) then some (.ret (vi 1) (mtZ a b c d h g) true) else bif decide (IntKind.i64.wrap (281474976710656 - h) < n) then some (.ret (vi 3) (mtZ a b c d h g) true)
    else some (.ret (vi 0) (mtZ a b c d (IntKind.i64.wrap (h + n)) (max g (IntKind.i64.wrap (h + n)))) true) := by kernel_rfl
  rw [e, max_bif]
  unfold haymowref07_Hold_0 haymowref07_Hold_1 haymowref07_Hold_2
  cases decide (n < 0) <;> cases decide (IntKind.i64.wrap (281474976710656 - h) < n) <;> rfl
theorem free_run (a b c d h g n : Int) : F_ Try.prog L_mt Try.f58 [] [0] 99 [.ptr 0 1 0 0, vi n] (mtW a b c d h g) = some (.ret (vi (haymowref07_Free_1 a b c d h g n)) (mtZ a b c d (haymowref07_Free_0 a b c d h g n) g) true) := by
  have e : F_ Try.prog L_mt Try.f58 [] [0] 99 [.ptr 0 1 0 0, vi n] (mtW a b c d h g) = bif decide (n < 0) then some (.ret (vi 1) (mtZ a b c d h g) true) else bif decide (h < n) then some (.ret (vi 4) (mtZ a b c d h g) true) else some (.ret (vi 0) (mtZ a b c d (IntKind.i64.wrap (h - n)) g) true) := by kernel_rfl
  rw [e]
  unfold haymowref07_Free_0 haymowref07_Free_1
  cases decide (n < 0) <;> cases decide (h < n) <;> rfl
-- steps
def actB (j k n : Int) : Bool := bif decide (k = j) then decide (0 < n) else false
def stp0 (a b n : Int) : Int := haymowref01_Add_0 a b 0 (IntKind.u64.wrap n)
def stp1 (a b n : Int) : Int := haymowref01_Add_1 a b 0 (IntKind.u64.wrap n)
def sA (k a b n : Int) : Int := bif actB 0 k n then stp0 a b n else a
def sB (k a b n : Int) : Int := bif actB 0 k n then stp1 a b n else b
def sC (k c d n : Int) : Int := bif actB 1 k n then stp0 c d n else c
def sD (k c d n : Int) : Int := bif actB 1 k n then stp1 c d n else d
theorem wrapU (n : Int) : isU (IntKind.u64.wrap n) := by unfold isU; rw [IntKind.wrap_u64]; omega
theorem of_inU {x : Int} (h : inU x = true) : isU x := by unfold inU m64 at h; unfold isU; simp at h; omega
theorem to_inU {x : Int} (h : isU x) : inU x = true := by unfold isU at h; unfold inU m64; simp; omega
theorem stp_eq {a b n : Int} (ha : isU a) (hb : isU b) : wide_Add_0 a b 0 (IntKind.u64.wrap n) = stp0 a b n ∧ wide_Add_1 a b 0 (IntKind.u64.wrap n) = stp1 a b n ∧ c_wide_Add a b 0 (IntKind.u64.wrap n) = true := by
  obtain ⟨h1, h2, _, h4⟩ := wadd ha hb isU0 (wrapU n)
  obtain ⟨g1, g2, _⟩ := radd ha hb isU0 (wrapU n)
  unfold stp0 stp1
  exact ⟨h1.trans g1.symm, h2.trans g2.symm, h4⟩
abbrev mStep_ (P : Program) (f : Func) (orc : List Nat) (a b c d h g k n : Int) : Option Fin_ := FO_ P L_mt f [] [0] 99 orc [.ptr 0 1 0 0, vi k, vi n] (mtW a b c d h g)
theorem step_no (a b c d h g k n : Int) : mStep_ Try.prog Try.f60 [1] a b c d h g k n = some (.ret (.tup []) (mtZ a b c d h g) (bif (bif bif decide (k < 0) then true else decide (2 ≤ k) then true else decide (n < 1)) then true else false)) := by kernel_rfl
theorem step_0 (a b c d h g n : Int) : mStep_ Try.prog Try.f60 [0] a b c d h g (Int.ofNat 0) n = some (.ret (.tup []) (mtZ (wide_Add_0 a b 0 (IntKind.u64.wrap n)) (wide_Add_1 a b 0 (IntKind.u64.wrap n)) c d h g) (bif !decide (n < 1) then bif c_wide_Add a b 0 (IntKind.u64.wrap n) then true else false else false)) := by kernel_rfl
theorem step_1 (a b c d h g n : Int) : mStep_ Try.prog Try.f60 [0] a b c d h g (Int.ofNat 1) n = some (.ret (.tup []) (mtZ a b (wide_Add_0 c d 0 (IntKind.u64.wrap n)) (wide_Add_1 c d 0 (IntKind.u64.wrap n)) h g) (bif !decide (n < 1) then bif c_wide_Add c d 0 (IntKind.u64.wrap n) then true else false else false)) := by kernel_rfl
theorem step_gives {a b c d h g k n : Int} (ha : isU a) (hb : isU b) (hc : isU c) (hd : isU d) : ∃ orc : List Nat, mStep_ Try.prog Try.f60 orc a b c d h g k n = some (.ret (.tup []) (mtZ (sA k a b n) (sB k a b n) (sC k c d n) (sD k c d n) h g) true) := by
  by_cases hn : n < 1
  · refine ⟨[1], ?_⟩
    rw [step_no, decide_eq_true hn]
    unfold sA sB sC sD actB
    rw [decide_eq_false (show ¬ 0 < n by omega)]
    cases decide (k = 0) <;> cases decide (k = 1) <;> cases (bif decide (k < 0) then true else decide (2 ≤ k)) <;> rfl
  · by_cases h0 : k = 0
    · subst h0
      refine ⟨[0], ?_⟩
      have := step_0 a b c d h g n
      obtain ⟨e1, e2, e3⟩ := stp_eq (n := n) ha hb
      rw [e1, e2, e3, decide_eq_false hn] at this
      unfold sA sB sC sD actB
      rw [decide_eq_true (show 0 < n by omega)]
      exact this
    · by_cases h1 : k = 1
      · subst h1
        refine ⟨[0], ?_⟩
        have := step_1 a b c d h g n
        obtain ⟨e1, e2, e3⟩ := stp_eq (n := n) hc hd
        rw [e1, e2, e3, decide_eq_false hn] at this
        unfold sA sB sC sD actB
        rw [decide_eq_true (show 0 < n by omega)]
        exact this
      · refine ⟨[1], ?_⟩
        rw [step_no]
        unfold sA sB sC sD actB
        rw [decide_eq_false h0, decide_eq_false h1]
        by_cases h2 : k < 0
        · rw [decide_eq_true h2]; rfl
        · rw [decide_eq_false h2, decide_eq_true (show 2 ≤ k by omega)]; rfl
-- the document's Step
abbrev rStep_ (P : Program) (f : Func) (orc : List Nat) (a b c d h g k n : Int) : Option Fin_ := FO_ P L_mt f [] [] 99 orc [.agg [vu a, vu b, vu c, vu d, vi h, vi g], vi k, vi n] noMem
theorem rstep_no (a b c d h g k n : Int) : rStep_ Try.prog Try.f62 [0] a b c d h g k n = some (.ret (.agg [vu a, vu b, vu c, vu d, vi h, vi g]) ⟨[], 99⟩ (bif !(bif bif decide (0 ≤ k) then decide (k ≤ 1) else false then decide (0 < n) else false) then true else false)) := by kernel_rfl
theorem rstep_0 (a b c d h g n : Int) : rStep_ Try.prog Try.f62 [1] a b c d h g (Int.ofNat 0) n = some (.ret (.agg [vu (stp0 a b n), vu (stp1 a b n), vu c, vu d, vi h, vi g]) ⟨[], 99⟩ (bif decide (0 < n) then true else false)) := by kernel_rfl
theorem rstep_1 (a b c d h g n : Int) : rStep_ Try.prog Try.f62 [1] a b c d h g (Int.ofNat 1) n = some (.ret (.agg [vu a, vu b, vu (stp0 c d n), vu (stp1 c d n), vi h, vi g]) ⟨[], 99⟩ (bif decide (0 < n) then true else false)) := by kernel_rfl
theorem rstep_gives (a b c d h g k n : Int) : ∃ orc : List Nat, rStep_ Try.prog Try.f62 orc a b c d h g k n = some (.ret (.agg [vu (sA k a b n), vu (sB k a b n), vu (sC k c d n), vu (sD k c d n), vi h, vi g]) ⟨[], 99⟩ true) := by
  by_cases hn : 0 < n
  · by_cases h0 : k = 0
    · subst h0
      refine ⟨[1], ?_⟩
      have := rstep_0 a b c d h g n
      unfold sA sB sC sD actB
      rw [decide_eq_true hn] at this ⊢
      exact this
    · by_cases h1 : k = 1
      · subst h1
        refine ⟨[1], ?_⟩
        have := rstep_1 a b c d h g n
        unfold sA sB sC sD actB
        rw [decide_eq_true hn] at this ⊢
        exact this
      · refine ⟨[0], ?_⟩
        rw [rstep_no]
        unfold sA sB sC sD actB
        rw [decide_eq_false h0, decide_eq_false h1]
        by_cases h2 : 0 ≤ k
        · rw [decide_eq_true h2, decide_eq_false (show ¬ k ≤ 1 by omega)]; rfl
        · rw [decide_eq_false h2]; rfl
  · refine ⟨[0], ?_⟩
    rw [rstep_no]
    unfold sA sB sC sD actB
    rw [decide_eq_false hn]
    cases decide (k = 0) <;> cases decide (k = 1) <;> cases (bif decide (0 ≤ k) then decide (k ≤ 1) else false) <;> rfl
-- contracts
def e_hold : Spec := fun m args => match args with
  | [.ptr l 1 0 0, .val (.int .i64 n)] => match look m.bl l with
    | some ⟨true, _, .cells [.val (.int .u64 a), .val (.int .u64 b), .val (.int .u64 c), .val (.int .u64 d), .val (.int .i64 h), .val (.int .i64 g)]⟩ => some (vi (haymowref07_Hold_2 a b c d h g n), some ⟨upd m.bl l (some ⟨true, false, mtK a b c d (haymowref07_Hold_0 a b c d h g n) (haymowref07_Hold_1 a b c d h g n)⟩), m.nx⟩, [])
    | _ => none
  | _ => none
theorem ok_hold : SpecOk Try.prog 56 e_hold := fun m args v mo bs he hb => by
  unfold e_hold at he
  split at he
  · rename_i l n
    split at he
    · rename_i op a b c d h g hl
      cases he
      exact lift_w1 (ar := []) (br := [vi n]) hl rfl rfl (fsound (c := bodyOf Try.f56) (fun xs w => Try.call56 xs w) Try.func56 rfl (F_ret hE_op mixed rfl rfl (hold_run a b c d h g n))) rfl rfl rfl rfl
    · cases he
  · cases he
def e_free : Spec := fun m args => match args with
  | [.ptr l 1 0 0, .val (.int .i64 n)] => match look m.bl l with
    | some ⟨true, _, .cells [.val (.int .u64 a), .val (.int .u64 b), .val (.int .u64 c), .val (.int .u64 d), .val (.int .i64 h), .val (.int .i64 g)]⟩ => some (vi (haymowref07_Free_1 a b c d h g n), some ⟨upd m.bl l (some ⟨true, false, mtK a b c d (haymowref07_Free_0 a b c d h g n) g⟩), m.nx⟩, [])
    | _ => none
  | _ => none
theorem ok_free : SpecOk Try.prog 58 e_free := fun m args v mo bs he hb => by
  unfold e_free at he
  split at he
  · rename_i l n
    split at he
    · rename_i op a b c d h g hl
      cases he
      exact lift_w1 (ar := []) (br := [vi n]) hl rfl rfl (fsound (c := bodyOf Try.f58) (fun xs w => Try.call58 xs w) Try.func58 rfl (F_ret hE_mt mixed rfl rfl (free_run a b c d h g n))) rfl rfl rfl rfl
    · cases he
  · cases he
def e_step : Spec := fun m args => match args with
  | [.ptr l 1 0 0, .val (.int .i64 k), .val (.int .i64 n)] => match look m.bl l with
    | some ⟨true, _, .cells [.val (.int .u64 a), .val (.int .u64 b), .val (.int .u64 c), .val (.int .u64 d), .val (.int .i64 h), .val (.int .i64 g)]⟩ => some (.tup [], some ⟨upd m.bl l (some ⟨true, false, mtK (sA k a b n) (sB k a b n) (sC k c d n) (sD k c d n) h g⟩), m.nx⟩, [inU a, inU b, inU c, inU d])
    | _ => none
  | _ => none
theorem ok_step : SpecOk Try.prog 60 e_step := fun m args v mo bs he hb => by
  unfold e_step at he
  split at he
  · rename_i l k n
    split at he
    · rename_i op a b c d h g hl
      cases he
      simp only [List.all_cons, List.all_nil, id, Bool.and_eq_true, Bool.and_true] at hb
      obtain ⟨orc, hr⟩ := step_gives (h := h) (g := g) (k := k) (n := n) (of_inU hb.1) (of_inU hb.2.1) (of_inU hb.2.2.1) (of_inU hb.2.2.2)
      exact lift_w1 (ar := []) (br := [vi k, vi n]) hl rfl rfl (fsound (c := bodyOf Try.f60) (fun xs w => Try.call60 xs w) Try.func60 rfl (FO_ret hE_mt mixed rfl rfl hr rfl)) rfl rfl rfl rfl
    · cases he
  · cases he
def e_rstep : Spec := fun _ args => match args with
  | [.agg [.val (.int .u64 a), .val (.int .u64 b), .val (.int .u64 c), .val (.int .u64 d), .val (.int .i64 h), .val (.int .i64 g)], .val (.int .i64 k), .val (.int .i64 n)] => some (.agg [vu (sA k a b n), vu (sB k a b n), vu (sC k c d n), vu (sD k c d n), vi h, vi g], none, [])
  | _ => none
theorem ok_rstep : SpecOk Try.prog 62 e_rstep := fun m args v mo bs he hb => by
  unfold e_rstep at he
  split at he
  · rename_i a b c d h g k n
    cases he
    obtain ⟨orc, hr⟩ := rstep_gives a b c d h g k n
    exact lift_ground (fsound (c := bodyOf Try.f62) (fun xs w => Try.call62 xs w) Try.func62 rfl (FO_ret hE_mt mixed rfl rfl hr rfl)) rfl rfl
  · cases he
-- what is read
theorem held_run (a b c d h g : Int) : F_ Try.prog L_mt Try.f64 [] [] 99 [.ptr 0 1 0 0] (mtR a b c d h g) = some (.ret (vi h) ⟨[], 99⟩ true) := by kernel_rfl
theorem high_run (a b c d h g : Int) : F_ Try.prog L_mt Try.f65 [] [] 99 [.ptr 0 1 0 0] (mtR a b c d h g) = some (.ret (vi g) ⟨[], 99⟩ true) := by kernel_rfl
theorem of0_run (a b c d h g : Int) : F_ Try.prog L_mt Try.f66 [] [] 99 [.ptr 0 1 0 0, vi 0] (mtR a b c d h g) = some (.ret (.agg [vu a, vu b]) ⟨[], 99⟩ true) := by kernel_rfl
theorem of1_run (a b c d h g : Int) : F_ Try.prog L_mt Try.f66 [] [] 99 [.ptr 0 1 0 0, vi 1] (mtR a b c d h g) = some (.ret (.agg [vu c, vu d]) ⟨[], 99⟩ true) := by kernel_rfl
theorem of2_run (a b c d h g : Int) : F_ Try.prog L_mt Try.f66 [] [] 99 [.ptr 0 1 0 0, vi 2] (mtR a b c d h g) = some (.ret (.agg [vu 0, vu 0]) ⟨[], 99⟩ true) := by kernel_rfl
def e_held : Spec := fun m args => match args with
  | [.ptr l 1 0 0] => match look m.bl l with
    | some ⟨_, _, .cells [.val (.int .u64 a), .val (.int .u64 b), .val (.int .u64 c), .val (.int .u64 d), .val (.int .i64 h), .val (.int .i64 g)]⟩ => some (vi h, none, [])
    | _ => none
  | _ => none
theorem ok_held : SpecOk Try.prog 64 e_held := fun m args v mo bs he hb => by
  unfold e_held at he
  split at he
  · rename_i l
    split at he
    · rename_i wr op a b c d h g hl
      cases he
      exact lift_p (ar := []) (br := []) hl rfl (fsound (c := bodyOf Try.f64) (fun xs w => Try.call64 xs w) Try.func64 rfl (F_ret hE_mt mixed rfl rfl (held_run a b c d h g))) rfl rfl rfl rfl
    · cases he
  · cases he
def e_high : Spec := fun m args => match args with
  | [.ptr l 1 0 0] => match look m.bl l with
    | some ⟨_, _, .cells [.val (.int .u64 a), .val (.int .u64 b), .val (.int .u64 c), .val (.int .u64 d), .val (.int .i64 h), .val (.int .i64 g)]⟩ => some (vi g, none, [])
    | _ => none
  | _ => none
theorem ok_high : SpecOk Try.prog 65 e_high := fun m args v mo bs he hb => by
  unfold e_high at he
  split at he
  · rename_i l
    split at he
    · rename_i wr op a b c d h g hl
      cases he
      exact lift_p (ar := []) (br := []) hl rfl (fsound (c := bodyOf Try.f65) (fun xs w => Try.call65 xs w) Try.func65 rfl (F_ret hE_mt mixed rfl rfl (high_run a b c d h g))) rfl rfl rfl rfl
    · cases he
  · cases he
def e_of0 : Spec := fun m args => match args with
  | [.ptr l 1 0 0, .val (.int .i64 0)] => match look m.bl l with
    | some ⟨_, _, .cells [.val (.int .u64 a), .val (.int .u64 b), .val (.int .u64 c), .val (.int .u64 d), .val (.int .i64 h), .val (.int .i64 g)]⟩ => some (.agg [vu a, vu b], none, [])
    | _ => none
  | _ => none
theorem ok_of0 : SpecOk Try.prog 66 e_of0 := fun m args v mo bs he hb => by
  unfold e_of0 at he
  split at he
  · rename_i l
    split at he
    · rename_i wr op a b c d h g hl
      cases he
      exact lift_p (ar := []) (br := [vi 0]) hl rfl (fsound (c := bodyOf Try.f66) (fun xs w => Try.call66 xs w) Try.func66 rfl (F_ret hE_mt mixed rfl rfl (of0_run a b c d h g))) rfl rfl rfl rfl
    · cases he
  · cases he
def e_of1 : Spec := fun m args => match args with
  | [.ptr l 1 0 0, .val (.int .i64 1)] => match look m.bl l with
    | some ⟨_, _, .cells [.val (.int .u64 a), .val (.int .u64 b), .val (.int .u64 c), .val (.int .u64 d), .val (.int .i64 h), .val (.int .i64 g)]⟩ => some (.agg [vu c, vu d], none, [])
    | _ => none
  | _ => none
theorem ok_of1 : SpecOk Try.prog 66 e_of1 := fun m args v mo bs he hb => by
  unfold e_of1 at he
  split at he
  · rename_i l
    split at he
    · rename_i wr op a b c d h g hl
      cases he
      exact lift_p (ar := []) (br := [vi 1]) hl rfl (fsound (c := bodyOf Try.f66) (fun xs w => Try.call66 xs w) Try.func66 rfl (F_ret hE_mt mixed rfl rfl (of1_run a b c d h g))) rfl rfl rfl rfl
    · cases he
  · cases he
def e_of2 : Spec := fun m args => match args with
  | [.ptr l 1 0 0, .val (.int .i64 2)] => match look m.bl l with
    | some ⟨_, _, .cells [.val (.int .u64 a), .val (.int .u64 b), .val (.int .u64 c), .val (.int .u64 d), .val (.int .i64 h), .val (.int .i64 g)]⟩ => some (.agg [vu 0, vu 0], none, [])
    | _ => none
  | _ => none
theorem ok_of2 : SpecOk Try.prog 66 e_of2 := fun m args v mo bs he hb => by
  unfold e_of2 at he
  split at he
  · rename_i l
    split at he
    · rename_i wr op a b c d h g hl
      cases he
      exact lift_p (ar := []) (br := [vi 2]) hl rfl (fsound (c := bodyOf Try.f66) (fun xs w => Try.call66 xs w) Try.func66 rfl (F_ret hE_mt mixed rfl rfl (of2_run a b c d h g))) rfl rfl rfl rfl
    · cases he
  · cases he
def L_of (P : Program) (f : Func) : List (FuncId × Spec) := (66, orS e_of0 (orS e_of1 (orS e_of2 (inlP P L_mt f)))) :: L_mt
theorem hE_of : ESound Try.prog (envOf (L_of Try.prog Try.f66)) := env_cons (orS_ok ok_of0 (orS_ok ok_of1 (orS_ok ok_of2 (inlP_ok hE_mt mixed (fun xs w => Try.call66 xs w) Try.func66 rfl)))) hE_mt
theorem steps_run (a b c d h g : Int) : F_ Try.prog (L_of Try.prog Try.f66) Try.f67 [] [] 99 [.ptr 0 1 0 0] (mtR a b c d h g) = some (.ret (.agg [vu (wide_Add_0 a b c d), vu (wide_Add_1 a b c d)]) ⟨[], 99⟩ (bif c_wide_Add a b c d then true else false)) := by kernel_rfl
def e_steps : Spec := fun m args => match args with
  | [.ptr l 1 0 0] => match look m.bl l with
    | some ⟨_, _, .cells [.val (.int .u64 a), .val (.int .u64 b), .val (.int .u64 c), .val (.int .u64 d), .val (.int .i64 h), .val (.int .i64 g)]⟩ => some (.agg [vu (haymowref07_Steps_0 a b c d h g), vu (haymowref07_Steps_1 a b c d h g)], none, [inU a, inU b, inU c, inU d])
    | _ => none
  | _ => none
theorem ok_steps : SpecOk Try.prog 67 e_steps := fun m args v mo bs he hb => by
  unfold e_steps at he
  split at he
  · rename_i l
    split at he
    · rename_i wr op a b c d h g hl
      cases he
      simp only [List.all_cons, List.all_nil, id, Bool.and_eq_true, Bool.and_true] at hb
      have ha := of_inU hb.1; have hb' := of_inU hb.2.1; have hc := of_inU hb.2.2.1; have hd := of_inU hb.2.2.2
      obtain ⟨h1, h2, _, h4⟩ := wadd ha hb' hc hd
      obtain ⟨g1, g2, _⟩ := radd ha hb' hc hd
      have hr := steps_run a b c d h g
      rw [h1, h2, h4, ← g1, ← g2] at hr
      exact lift_p (ar := []) (br := []) hl rfl (fsound (c := bodyOf Try.f67) (fun xs w => Try.call67 xs w) Try.func67 rfl (F_ret hE_of mixed rfl rfl hr)) rfl rfl rfl rfl
    · cases he
  · cases he
def L_sp (P : Program) (f f1 : Func) : List (FuncId × Spec) := (67, orS e_steps (inlP P (L_of P f) f1)) :: L_of P f
theorem hE_sp : ESound Try.prog (envOf (L_sp Try.prog Try.f66 Try.f67)) := env_cons (orS_ok ok_steps (inlP_ok hE_of mixed (fun xs w => Try.call67 xs w) Try.func67 rfl)) hE_of
end Go.Proofs.Ytanfjgkohhlcoaa
