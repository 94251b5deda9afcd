/-
  What the program's functions hand back.
-/
import Derived.Test.YtbjealobiblabaaProg
import Derived.Test.YtbjealobiblabaaCeMd
namespace Go.Proofs.Ytbjealobiblabaa
open Go Go.RowKit
set_option maxRecDepth 100000
abbrev rwB (l : List KV) : Nat × Option ABlk := (0, some ⟨false, false, .rows (colsF fs5 l)⟩)
abbrev yC (a : Nat) : List Cut := [(2,[0,2,3,4],[0,1,2],a)]
abbrev yT (n : Nat) (i : Int) : List AV := [.sl false 0 5 0 1 n none, .unk, .ptr 1 1 0 0, .ptr 2 1 0 0, vi i] ++ List.replicate 25 .unk
abbrev yM (l : List KV) (a b : Int) (nx : Nat) : MS := ⟨[rwB l, (1, some ⟨true, false, .cells [vi 0, vi 0]⟩), (2, some ⟨true, false, .cells [vi a, vi b]⟩)], nx⟩
theorem y_in (l : List KV) (n : Nat) : F_ Try.prog [] Try.f20 (yC 3) [] 99 [.sl false 0 5 0 1 n none] ⟨[rwB l], 1⟩ = some (.head (hd Try.f20 0) (yT n 0) (yM l 0 0 3) true) := by kernel_rfl
theorem y_round (l : List KV) (n : Nat) (a b i : Int) : H_ Try.prog [] Try.f20 (yC 3) [] 99 (hd Try.f20 0) (yT n i) (yM l a b 3) =
    bif decide (i < Int.ofNat n) then some (.head (hd Try.f20 0) (yT n (up1 i)) (yM l (IntKind.i64.wrap (a + (l.map kD).getD (iz i) 0)) (IntKind.i64.wrap (b + (l.map kE).getD (iz i) 0)) 3) (conj [decide (0 ≤ i), decide (i.toNat < n), decide (iz i < (l.map kD).length), decide (0 ≤ i), decide (i.toNat < n), decide (iz i < (l.map kE).length)]))
    else some (.ret (.agg [vi a, vi b]) ⟨[], 99⟩ true) := by kernel_rfl
theorem y_loop (l : List KV) (hn : l.length ≤ 4096) : ∀ (j i : Nat) (a b : Int), i + j = l.length →
    Gives_ Try.prog Try.f20 1 ⟨hd Try.f20 0, yT l.length (i : Int), yM l a b 3⟩ (.agg [vi (totF (pTotal 0) kD (l.drop i) a), vi (totF (pTotal 0) kE (l.drop i) b)]) ⟨[], 99⟩
  | 0, i, a, b, hi => by
    have h := y_round l l.length a b (i : Int)
    rw [decide_eq_false (show ¬ (i : Int) < Int.ofNat l.length by show ¬ (i : Int) < (l.length : Int); omega), cond_false] at h
    rw [List.drop_of_length_le (by omega)]
    exact H_ret (cuts := yC 3) (ns := []) (top := 99) env_nil mixedP rfl h
  | j + 1, i, a, b, hi => by
    have h := y_round l l.length a b (i : Int)
    have hlt : i < l.length := by omega
    rw [decide_eq_true (show (i : Int) < Int.ofNat l.length by show (i : Int) < (l.length : Int); omega), cond_true, mapD kD hlt, mapD kE hlt, iz_nat, Int.toNat_natCast, decide_eq_true (show 0 ≤ (i : Int) by omega), decide_eq_true hlt, List.length_map, List.length_map, decide_eq_true hlt, up1_nat (by omega)] at h
    rw [List.drop_eq_getElem_cons hlt, totF, totF]
    exact Goes.gives (H_head (f := Try.f20) (cuts := yC 3) (ns := []) (top := 99) env_nil mixedP rfl h) (y_loop l hn j (i + 1) _ _ (by omega))
theorem y_all (l : List KV) (hn : l.length ≤ 4096) : Gives_ Try.prog Try.f20 1 (enterA Try.f20 (bodyOf Try.f20) [.sl false 0 5 0 1 l.length none] ⟨[rwB l], 1⟩) (.agg [vi (totF (pTotal 0) kD l 0), vi (totF (pTotal 0) kE l 0)]) ⟨[], 99⟩ :=
  Goes.gives (F_head (f := Try.f20) (c := bodyOf Try.f20) (m := ⟨[rwB l], 1⟩) (cuts := yC 3) (ns := []) (top := 99) env_nil mixedP rfl rfl (y_in l l.length)) (y_loop l hn l.length 0 0 0 (by omega))
/-- Total over the rows l. -/
def e_rtotL (l : List KV) : Spec := fun m args => match args with
  | [.sl _ b 5 0 1 n _] => match look m.bl b with
    | some ⟨_, _, .rows [.ints .i64 c0, .ints .i64 c1, .ints .i64 c2, .ints .i64 c3, .ints .i64 c4]⟩ => some (.agg [vi (totF (pTotal 0) kD l 0), vi (totF (pTotal 0) kE l 0)], none, [Nat.ble l.length 4096, decide (n = l.length), decide (c0 = l.map kA), decide (c1 = l.map kB), decide (c2 = l.map kC), decide (c3 = l.map kD), decide (c4 = l.map kE)])
    | _ => none
  | _ => none
theorem ok_rtotL (l : List KV) : SpecOk Try.prog 20 (e_rtotL l) := fun m args v mo bs h hb => by
  unfold e_rtotL at h
  split at h
  · split at h <;> cases h
    rename_i _ _ _ c0 c1 c2 c3 c4 hl
    simp only [List.all_cons, List.all_nil, id, Bool.and_true, Bool.and_eq_true, decide_eq_true_eq] at hb
    obtain ⟨h1, h2, e0, e1, e2, e3, e4⟩ := hb
    subst h2 e0 e1 e2 e3 e4
    exact lift_s hl rfl rfl (fsound (c := bodyOf Try.f20) (fun xs w => Try.call20 xs w) Try.func20 rfl (y_all l (Nat.le_of_ble_eq_true h1))) rfl
  · cases h
-- same
abbrev zC (a : Nat) : List Cut := [(2,[0,1,5],[0,1],a)]
abbrev zT (n : Nat) (i : Int) : List AV := [.sl false 0 5 0 1 n none, .sl false 1 5 0 1 n none, .unk, .unk, .unk, vi i] ++ List.replicate 52 .unk
abbrev zM (l : List KV) (nx : Nat) : MS := ⟨[rwB l, (1, some ⟨false, false, .rows (colsF fs5 l)⟩)], nx⟩
theorem z_in (l : List KV) (n : Nat) : FO_ Try.prog [] Try.f17 (zC 2) [] 99 [0] [.sl false 0 5 0 1 n none, .sl false 1 5 0 1 n none] ⟨[rwB l, (1, some ⟨false, false, .rows (colsF fs5 l)⟩)], 2⟩ = some (.head (hd Try.f17 0) (zT n 0) (zM l 2) (conj [!(Int.ofNat n != Int.ofNat n)])) := by kernel_rfl
theorem z_round (l : List KV) (n : Nat) (i : Int) : HO_ Try.prog [] Try.f17 (zC 2) [] 99 [1, 0] (hd Try.f17 0) (zT n i) (zM l 2) = some (.head (hd Try.f17 0) (zT n (up1 i)) (zM l 2) (conj [decide (i < Int.ofNat n), decide (0 ≤ i), decide (i.toNat < n), decide (iz i < (l.map kA).length), decide (iz i < (l.map kB).length), decide (iz i < (l.map kC).length), decide (0 ≤ i), decide (i.toNat < n), decide (iz i < (l.map kA).length), decide (0 ≤ i), decide (i.toNat < n), decide (iz i < (l.map kB).length), decide (0 ≤ i), decide (i.toNat < n), decide (iz i < (l.map kC).length), !!!((l.map kA).getD (iz i) 0 == (l.map kA).getD (iz i) 0 && ((l.map kB).getD (iz i) 0 == (l.map kB).getD (iz i) 0 && ((l.map kC).getD (iz i) 0 == (l.map kC).getD (iz i) 0 && true))) || decide (0 ≤ i), !!!((l.map kA).getD (iz i) 0 == (l.map kA).getD (iz i) 0 && ((l.map kB).getD (iz i) 0 == (l.map kB).getD (iz i) 0 && ((l.map kC).getD (iz i) 0 == (l.map kC).getD (iz i) 0 && true))) || decide (i.toNat < n), !!!((l.map kA).getD (iz i) 0 == (l.map kA).getD (iz i) 0 && ((l.map kB).getD (iz i) 0 == (l.map kB).getD (iz i) 0 && ((l.map kC).getD (iz i) 0 == (l.map kC).getD (iz i) 0 && true))) || decide (iz i < (l.map kD).length), !!!((l.map kA).getD (iz i) 0 == (l.map kA).getD (iz i) 0 && ((l.map kB).getD (iz i) 0 == (l.map kB).getD (iz i) 0 && ((l.map kC).getD (iz i) 0 == (l.map kC).getD (iz i) 0 && true))) || decide (iz i < (l.map kE).length), !!!((l.map kA).getD (iz i) 0 == (l.map kA).getD (iz i) 0 && ((l.map kB).getD (iz i) 0 == (l.map kB).getD (iz i) 0 && ((l.map kC).getD (iz i) 0 == (l.map kC).getD (iz i) 0 && true))) || decide (0 ≤ i), !!!((l.map kA).getD (iz i) 0 == (l.map kA).getD (iz i) 0 && ((l.map kB).getD (iz i) 0 == (l.map kB).getD (iz i) 0 && ((l.map kC).getD (iz i) 0 == (l.map kC).getD (iz i) 0 && true))) || decide (i.toNat < n), !!!((l.map kA).getD (iz i) 0 == (l.map kA).getD (iz i) 0 && ((l.map kB).getD (iz i) 0 == (l.map kB).getD (iz i) 0 && ((l.map kC).getD (iz i) 0 == (l.map kC).getD (iz i) 0 && true))) || decide (iz i < (l.map kD).length), !!!((l.map kA).getD (iz i) 0 == (l.map kA).getD (iz i) 0 && ((l.map kB).getD (iz i) 0 == (l.map kB).getD (iz i) 0 && ((l.map kC).getD (iz i) 0 == (l.map kC).getD (iz i) 0 && true))) || decide (0 ≤ i), !!!((l.map kA).getD (iz i) 0 == (l.map kA).getD (iz i) 0 && ((l.map kB).getD (iz i) 0 == (l.map kB).getD (iz i) 0 && ((l.map kC).getD (iz i) 0 == (l.map kC).getD (iz i) 0 && true))) || decide (i.toNat < n), !!!((l.map kA).getD (iz i) 0 == (l.map kA).getD (iz i) 0 && ((l.map kB).getD (iz i) 0 == (l.map kB).getD (iz i) 0 && ((l.map kC).getD (iz i) 0 == (l.map kC).getD (iz i) 0 && true))) || decide (iz i < (l.map kE).length), !(bif !((l.map kA).getD (iz i) 0 == (l.map kA).getD (iz i) 0 && ((l.map kB).getD (iz i) 0 == (l.map kB).getD (iz i) 0 && ((l.map kC).getD (iz i) 0 == (l.map kC).getD (iz i) 0 && true))) then true else !((l.map kD).getD (iz i) 0 == (l.map kD).getD (iz i) 0 && ((l.map kE).getD (iz i) 0 == (l.map kE).getD (iz i) 0 && true)))])) := by kernel_rfl
theorem z_end (l : List KV) (n : Nat) (i : Int) : HO_ Try.prog [] Try.f17 (zC 2) [] 99 [0] (hd Try.f17 0) (zT n i) (zM l 2) = some (.ret (vb true) ⟨[], 99⟩ (conj [!decide (i < Int.ofNat n)])) := by kernel_rfl
theorem z_loop (l : List KV) (hn : l.length ≤ 4096) : ∀ (j i : Nat), i + j = l.length → Gives_ Try.prog Try.f17 2 ⟨hd Try.f17 0, zT l.length (i : Int), zM l 2⟩ (vb true) ⟨[], 99⟩
  | 0, i, hi => by
    have h := z_end l l.length (i : Int)
    rw [decide_eq_false (show ¬ (i : Int) < Int.ofNat l.length by show ¬ (i : Int) < (l.length : Int); omega)] at h
    exact HO_ret env_nil mixedP rfl h rfl
  | j + 1, i, hi => by
    have h := z_round l l.length (i : Int)
    have hlt : i < l.length := by omega
    have e1 : ∀ x : Int, (x == x) = true := fun x => beq_self_eq_true x
    rw [e1, e1, e1, e1, e1, decide_eq_true (show (i : Int) < Int.ofNat l.length by show (i : Int) < (l.length : Int); omega), iz_nat, Int.toNat_natCast, decide_eq_true (show 0 ≤ (i : Int) by omega), decide_eq_true hlt, List.length_map, List.length_map, List.length_map, List.length_map, List.length_map, decide_eq_true hlt, up1_nat (by omega)] at h
    exact Goes.gives (HO_head env_nil mixedP rfl h rfl) (z_loop l hn j (i + 1) (by omega))
theorem z_all (l : List KV) (hn : l.length ≤ 4096) : Gives_ Try.prog Try.f17 2 (enterA Try.f17 (bodyOf Try.f17) [.sl false 0 5 0 1 l.length none, .sl false 1 5 0 1 l.length none] ⟨[rwB l, (1, some ⟨false, false, .rows (colsF fs5 l)⟩)], 2⟩) (vb true) ⟨[], 99⟩ := by
  have h := z_in l l.length
  rw [bne_self_eq_false] at h
  exact Goes.gives (FO_head (f := Try.f17) (c := bodyOf Try.f17) (m := ⟨[rwB l, (1, some ⟨false, false, .rows (colsF fs5 l)⟩)], 2⟩) (cuts := zC 2) env_nil mixedP rfl rfl h rfl) (z_loop l hn l.length 0 (by omega))
/-- Rows that are the rows l, compared. -/
def e_sameL (l : List KV) : Spec := fun m args => match args with
  | [.sl _ b 5 0 1 n _, .sl _ b' 5 0 1 n' _] => match look m.bl b, look m.bl b' with
    | some ⟨_, _, .rows [.ints .i64 c0, .ints .i64 c1, .ints .i64 c2, .ints .i64 c3, .ints .i64 c4]⟩, some ⟨_, _, .rows [.ints .i64 d0, .ints .i64 d1, .ints .i64 d2, .ints .i64 d3, .ints .i64 d4]⟩ =>
      some (vb true, none, [Nat.ble l.length 4096, decide (n = l.length), decide (n' = l.length), decide (c0 = l.map kA), decide (c1 = l.map kB), decide (c2 = l.map kC), decide (c3 = l.map kD), decide (c4 = l.map kE), decide (d0 = l.map kA), decide (d1 = l.map kB), decide (d2 = l.map kC), decide (d3 = l.map kD), decide (d4 = l.map kE)])
    | _, _ => none
  | _ => none
theorem ok_sameL (l : List KV) : SpecOk Try.prog 17 (e_sameL l) := fun m args v mo bs h hb => by
  unfold e_sameL at h
  split at h
  · rename_i nn b n c nn' b' n' c'
    split at h <;> cases h
    rename_i _ _ _ c0 c1 c2 c3 c4 _ _ d0 d1 d2 d3 d4 hl hl'
    simp only [List.all_cons, List.all_nil, id, Bool.and_true, Bool.and_eq_true, decide_eq_true_eq] at hb
    obtain ⟨h1, h2, h3, e0, e1, e2, e3, e4, f0, f1, f2, f3, f4⟩ := hb
    subst h2 h3 e0 e1 e2 e3 e4 f0 f1 f2 f3 f4
    refine lift_pure (m1 := ⟨[rwB l, (1, some ⟨false, false, .rows (colsF fs5 l)⟩)], 2⟩) (args1 := [.sl false 0 5 0 1 l.length none, .sl false 1 5 0 1 l.length none]) (fsound (c := bodyOf Try.f17) (fun xs w => Try.call17 xs w) Try.func17 rfl (z_all l (Nat.le_of_ble_eq_true h1))) rfl rfl fun ρ w xs hm hx => ?_
    simp only [AV.rels] at hx
    obtain ⟨z, zs, rfl, hz, y, ys, rfl, hy, rfl⟩ := hx
    simp only [AV.rel] at hz hy
    obtain ⟨_, A, cc, rfl, hnc, hA, _, _⟩ := hz
    obtain ⟨_, A', cc', rfl, hnc', hA', _, _⟩ := hy
    let ρ1 : Rho := fun j => match j with
      | 0 => ⟨(ρ b).b, (ρ b).o, cc * (1 * 5), 0⟩
      | _ => ⟨(ρ b').b, (ρ b').o, cc' * (1 * 5), 0⟩
    have v0 := hm.view hl rfl ρ1 2
    have v1 := hm.view hl' rfl ρ1 2
    refine ⟨ρ1, mrel_two ⟨v0.lt, v0.rel, (fun h => by cases h), (fun h => by cases h), fun q h => by cases h⟩ ⟨v1.lt, v1.rel, (fun h => by cases h), (fun h => by cases h), fun q h => by cases h⟩ rfl rfl, ?_⟩
    simp only [AV.rels]
    refine ⟨_, _, rfl, ?_, _, _, rfl, ?_, rfl⟩
    · simp only [AV.rel]
      exact ⟨by show (0 : Nat) < 2; omega, A, cc, rfl, hnc, hA, (fun h => by cases h), by show 0 * 5 + cc * (1 * 5) ≤ cc * (1 * 5); omega⟩
    · simp only [AV.rel]
      exact ⟨by show (1 : Nat) < 2; omega, A', cc', rfl, hnc', hA', (fun h => by cases h), by show 0 * 5 + cc' * (1 * 5) ≤ cc' * (1 * 5); omega⟩
  · cases h
-- Some
theorem cond_tf (b : Bool) : (bif b then true else false) = b := by cases b <;> rfl
def someP (b x : Int) (e : KV) : Bool := bif b == 0 then pSite x e else bif b == 1 then pClass x e else pOld x e
abbrev vC (a : Nat) : List Cut := [(2,[0,1,2,7,8],[0,2,4],a)]
abbrev vT (b : Int) (n : Nat) (x : Int) (v : AV) (i : Int) : List AV := [.sl false 0 5 0 1 n none, vi b, vi x, .unk, .unk, .unk, .unk, v, vi i] ++ List.replicate 51 .unk
abbrev vVl (l : List KV) : AV := match l with
  | [] => .val (.slice none 0 0)
  | _ :: _ => .sl true 2 5 0 1 l.length none
abbrev vBl (l : List KV) : List (Nat × Option ABlk) := match l with
  | [] => []
  | _ :: _ => [(2, some ⟨true, true, .rows (colsF fs5 l)⟩)]
theorem v0_in (l : List KV) (n : Nat) (x : Int) : FO_ Try.prog [] Try.f21 (vC 9) [] 99 [] [.sl false 0 5 0 1 n none, vi 0, vi x] ⟨[rwB l], 1⟩ = some (.head (hd Try.f21 0) (vT 0 n x (.val (.slice none 0 0)) 0) ⟨[rwB l, (2, none), (4, none)], 9⟩ true) := by kernel_rfl
theorem v0_rN (l : List KV) (n : Nat) (x i : Int) : HO_ Try.prog [] Try.f21 (vC 9) [] 99 [] (hd Try.f21 0) (vT 0 n x (.val (.slice none 0 0)) i) ⟨[rwB l], 3⟩ =
    bif decide (i < Int.ofNat n) then (bif (bif (bif (l.map kA).getD (iz i) 0 == x then true else false) then true else false) then some (.head (hd Try.f21 0) (vT 0 n x (.sl true 4 5 0 1 1 none) (up1 i)) ⟨[rwB l, (2, none), (4, some ⟨true, true, .rows [.ints .i64 [(l.map kA).getD (iz i) 0], .ints .i64 [(l.map kB).getD (iz i) 0], .ints .i64 [(l.map kC).getD (iz i) 0], .ints .i64 [(l.map kD).getD (iz i) 0], .ints .i64 [(l.map kE).getD (iz i) 0]]⟩)], 9⟩ (conj [false || decide (0 ≤ i), false || decide (i.toNat < n), false || decide (iz i < (l.map kA).length), !(!((l.map kA).getD (iz i) 0 == x) && false) || decide (0 ≤ i), !(!((l.map kA).getD (iz i) 0 == x) && false) || decide (i.toNat < n), !(!((l.map kA).getD (iz i) 0 == x) && false) || decide (iz i < (l.map kB).length), !((!bif (l.map kA).getD (iz i) 0 == x then true else false) && false) || decide (0 ≤ i), !((!bif (l.map kA).getD (iz i) 0 == x then true else false) && false) || decide (i.toNat < n), !((!bif (l.map kA).getD (iz i) 0 == x then true else false) && false) || decide (iz i < (l.map kC).length), decide (0 ≤ i), decide (i.toNat < n), decide (iz i < (l.map kA).length), decide (iz i < (l.map kB).length), decide (iz i < (l.map kC).length), decide (iz i < (l.map kD).length), decide (iz i < (l.map kE).length)])) else some (.head (hd Try.f21 0) (vT 0 n x (.val (.slice none 0 0)) (up1 i)) ⟨[rwB l, (2, none), (4, none)], 9⟩ (conj [false || decide (0 ≤ i), false || decide (i.toNat < n), false || decide (iz i < (l.map kA).length), !(!((l.map kA).getD (iz i) 0 == x) && false) || decide (0 ≤ i), !(!((l.map kA).getD (iz i) 0 == x) && false) || decide (i.toNat < n), !(!((l.map kA).getD (iz i) 0 == x) && false) || decide (iz i < (l.map kB).length), !((!bif (l.map kA).getD (iz i) 0 == x then true else false) && false) || decide (0 ≤ i), !((!bif (l.map kA).getD (iz i) 0 == x then true else false) && false) || decide (i.toNat < n), !((!bif (l.map kA).getD (iz i) 0 == x then true else false) && false) || decide (iz i < (l.map kC).length)])))
    else some (.ret (.val (.slice none 0 0)) ⟨[], 99⟩ true) := by kernel_rfl
theorem v0_rY (l : List KV) (n : Nat) (x i : Int) (o : List KV) (q : Nat) : HO_ Try.prog [] Try.f21 (vC 9) [2] 99 [] (hd Try.f21 0) (vT 0 n x (.sl true 2 5 0 1 q none) i) ⟨[rwB l, (2, some ⟨true, true, .rows (colsF fs5 o)⟩)], 3⟩ =
    bif decide (i < Int.ofNat n) then (bif (bif (bif (l.map kA).getD (iz i) 0 == x then true else false) then true else false) then some (.head (hd Try.f21 0) (vT 0 n x (.sl true 4 5 0 1 (q + 1) none) (up1 i)) ⟨[rwB l, (2, none), (4, some ⟨true, true, .rows [.ints .i64 (List.take q (o.map kA) ++ [(l.map kA).getD (iz i) 0]), .ints .i64 (List.take q (o.map kB) ++ [(l.map kB).getD (iz i) 0]), .ints .i64 (List.take q (o.map kC) ++ [(l.map kC).getD (iz i) 0]), .ints .i64 (List.take q (o.map kD) ++ [(l.map kD).getD (iz i) 0]), .ints .i64 (List.take q (o.map kE) ++ [(l.map kE).getD (iz i) 0])]⟩)], 9⟩ (conj [false || decide (0 ≤ i), false || decide (i.toNat < n), false || decide (iz i < (l.map kA).length), !(!((l.map kA).getD (iz i) 0 == x) && false) || decide (0 ≤ i), !(!((l.map kA).getD (iz i) 0 == x) && false) || decide (i.toNat < n), !(!((l.map kA).getD (iz i) 0 == x) && false) || decide (iz i < (l.map kB).length), !((!bif (l.map kA).getD (iz i) 0 == x then true else false) && false) || decide (0 ≤ i), !((!bif (l.map kA).getD (iz i) 0 == x then true else false) && false) || decide (i.toNat < n), !((!bif (l.map kA).getD (iz i) 0 == x then true else false) && false) || decide (iz i < (l.map kC).length), decide (0 ≤ i), decide (i.toNat < n), decide (iz i < (l.map kA).length), decide (iz i < (l.map kB).length), decide (iz i < (l.map kC).length), decide (iz i < (l.map kD).length), decide (iz i < (l.map kE).length), decide (0 < q), decide ((q + 1) * 40 ≤ 140737488355328), decide (q ≤ (o.map kA).length), decide (q ≤ (o.map kB).length), decide (q ≤ (o.map kC).length), decide (q ≤ (o.map kD).length), decide (q ≤ (o.map kE).length)])) else some (.head (hd Try.f21 0) (vT 0 n x (.sl true 2 5 0 1 q none) (up1 i)) ⟨[rwB l, (2, some ⟨true, true, .rows (colsF fs5 o)⟩), (4, none)], 9⟩ (conj [false || decide (0 ≤ i), false || decide (i.toNat < n), false || decide (iz i < (l.map kA).length), !(!((l.map kA).getD (iz i) 0 == x) && false) || decide (0 ≤ i), !(!((l.map kA).getD (iz i) 0 == x) && false) || decide (i.toNat < n), !(!((l.map kA).getD (iz i) 0 == x) && false) || decide (iz i < (l.map kB).length), !((!bif (l.map kA).getD (iz i) 0 == x then true else false) && false) || decide (0 ≤ i), !((!bif (l.map kA).getD (iz i) 0 == x then true else false) && false) || decide (i.toNat < n), !((!bif (l.map kA).getD (iz i) 0 == x then true else false) && false) || decide (iz i < (l.map kC).length)])))
    else some (.ret (.sl true 2 5 0 1 q none) ⟨[(2, some ⟨true, true, .rows (colsF fs5 o)⟩)], 99⟩ true) := by kernel_rfl
theorem v0_loop (l : List KV) (hn : l.length ≤ 4096) (x : Int) : ∀ (j i : Nat) (o : List KV), i + j = l.length → o.length ≤ i →
    Gives_ Try.prog Try.f21 1 ⟨(hd Try.f21 0), vT 0 l.length x (vVl o) (i : Int), ⟨[rwB l] ++ vBl o, 3⟩⟩ (vVl (o ++ (l.drop i).filter (pSite x))) ⟨vBl (o ++ (l.drop i).filter (pSite x)), 99⟩
  | 0, i, o, hi, ho => by
    rw [List.drop_of_length_le (by omega), List.filter_nil, List.append_nil]
    match o with
    | [] =>
      have h := v0_rN l l.length x (i : Int)
      rw [decide_eq_false (show ¬ (i : Int) < Int.ofNat l.length by show ¬ (i : Int) < (l.length : Int); omega), cond_false] at h
      exact HO_ret env_nil mixedP rfl h rfl
    | e :: o =>
      have h := v0_rY l l.length x (i : Int) (e :: o) (e :: o).length
      rw [decide_eq_false (show ¬ (i : Int) < Int.ofNat l.length by show ¬ (i : Int) < (l.length : Int); omega), cond_false] at h
      exact HO_ret env_nil mixedP rfl h rfl
  | j + 1, i, o, hi, ho => by
    have hlt : i < l.length := by omega
    have hp : pSite x l[i] = (kA l[i] == x) := rfl
    rw [List.drop_eq_getElem_cons hlt, List.filter_cons, hp]
    match o, ho with
    | [], _ =>
      have h := v0_rN l l.length x (i : Int)
      rw [decide_eq_true (show (i : Int) < Int.ofNat l.length by show (i : Int) < (l.length : Int); omega), cond_true, mapD kA hlt, mapD kB hlt, mapD kC hlt, mapD kD hlt, mapD kE hlt, cond_tf, cond_tf, iz_nat, Int.toNat_natCast, decide_eq_true (show 0 ≤ (i : Int) by omega), up1_nat (by omega)] at h
      simp only [List.length_map] at h
      rw [decide_eq_true hlt] at h
      cases ht : (kA l[i] == x) with
      | true =>
        rw [ht, cond_true] at h
        rw [if_pos rfl, List.nil_append]
        have g := v0_loop l hn x j (i + 1) [l[i]] (by omega) (by simp)
        rw [List.singleton_append] at g
        exact Goes.gives ((HO_head env_nil mixedP rfl h rfl).trans (Goes.ren (P := Try.prog) (B := 1) (σ := [(0, 0), (2, 4)]) (nx := 3) rfl)) g
      | false =>
        rw [ht, cond_false] at h
        rw [if_neg (by simp)]
        exact Goes.gives ((HO_head env_nil mixedP rfl h rfl).trans (Goes.ren (P := Try.prog) (B := 1) (σ := [(0, 0)]) (nx := 3) rfl)) (v0_loop l hn x j (i + 1) [] (by omega) (by simp))
    | e :: o, ho =>
      have hol : (e :: o).length ≤ i := ho
      have h := v0_rY l l.length x (i : Int) (e :: o) (e :: o).length
      have e1 : ∀ f : KV → Int, List.take (e :: o).length ((e :: o).map f) = (e :: o).map f := fun f => List.take_of_length_le (by rw [List.length_map]; omega)
      have e2 : ∀ (f : KV → Int), (e :: o).map f ++ [f l[i]] = (e :: o ++ [l[i]]).map f := fun f => by rw [List.map_append]; rfl
      have e3 : (e :: o).length + 1 = (e :: o ++ [l[i]]).length := by simp
      rw [decide_eq_true (show (i : Int) < Int.ofNat l.length by show (i : Int) < (l.length : Int); omega), cond_true, mapD kA hlt, mapD kB hlt, mapD kC hlt, mapD kD hlt, mapD kE hlt, cond_tf, cond_tf, iz_nat, Int.toNat_natCast, decide_eq_true (show 0 ≤ (i : Int) by omega), e1, e1, e1, e1, e1, e2, e2, e2, e2, e2] at h
      have em : ∀ f : KV → Int, ((e :: o).map f).length = (e :: o).length := fun f => List.length_map ..
      have el : ∀ f : KV → Int, (l.map f).length = l.length := fun f => List.length_map ..
      rw [em, em, em, em, em] at h
      simp only [el] at h
      rw [decide_eq_true hlt, decide_eq_true (show 0 < (e :: o).length from Nat.succ_pos _), decide_eq_true (show ((e :: o).length + 1) * 40 ≤ 140737488355328 by omega),
        decide_eq_true (Nat.le_refl (e :: o).length), e3, up1_nat (by omega)] at h
      cases ht : (kA l[i] == x) with
      | true =>
        rw [ht, cond_true] at h
        rw [if_pos rfl, show ∀ F : List KV, (e :: o) ++ l[i] :: F = ((e :: o) ++ [l[i]]) ++ F from fun F => by simp]
        exact Goes.gives ((HO_head env_nil mixedP rfl h rfl).trans (Goes.ren (P := Try.prog) (B := 1) (σ := [(0, 0), (2, 4)]) (nx := 3) rfl)) (v0_loop l hn x j (i + 1) (e :: o ++ [l[i]]) (by omega) (by rw [← e3]; omega))
      | false =>
        rw [ht, cond_false] at h
        rw [if_neg (by simp)]
        exact Goes.gives ((HO_head env_nil mixedP rfl h rfl).trans (Goes.ren (P := Try.prog) (B := 1) (σ := [(0, 0), (2, 2)]) (nx := 3) rfl)) (v0_loop l hn x j (i + 1) (e :: o) (by omega) (by omega))
theorem v1_in (l : List KV) (n : Nat) (x : Int) : FO_ Try.prog [] Try.f21 (vC 9) [] 99 [] [.sl false 0 5 0 1 n none, vi 1, vi x] ⟨[rwB l], 1⟩ = some (.head (hd Try.f21 0) (vT 1 n x (.val (.slice none 0 0)) 0) ⟨[rwB l, (2, none), (4, none)], 9⟩ true) := by kernel_rfl
theorem v1_rN (l : List KV) (n : Nat) (x i : Int) : HO_ Try.prog [] Try.f21 (vC 9) [] 99 [] (hd Try.f21 0) (vT 1 n x (.val (.slice none 0 0)) i) ⟨[rwB l], 3⟩ =
    bif decide (i < Int.ofNat n) then (bif (bif (l.map kB).getD (iz i) 0 == x then true else false) then some (.head (hd Try.f21 0) (vT 1 n x (.sl true 4 5 0 1 1 none) (up1 i)) ⟨[rwB l, (2, none), (4, some ⟨true, true, .rows [.ints .i64 [(l.map kA).getD (iz i) 0], .ints .i64 [(l.map kB).getD (iz i) 0], .ints .i64 [(l.map kC).getD (iz i) 0], .ints .i64 [(l.map kD).getD (iz i) 0], .ints .i64 [(l.map kE).getD (iz i) 0]]⟩)], 9⟩ (conj [false || decide (0 ≤ i), false || decide (i.toNat < n), false || decide (iz i < (l.map kB).length), !(!((l.map kB).getD (iz i) 0 == x) && false) || decide (0 ≤ i), !(!((l.map kB).getD (iz i) 0 == x) && false) || decide (i.toNat < n), !(!((l.map kB).getD (iz i) 0 == x) && false) || decide (iz i < (l.map kC).length), decide (0 ≤ i), decide (i.toNat < n), decide (iz i < (l.map kA).length), decide (iz i < (l.map kB).length), decide (iz i < (l.map kC).length), decide (iz i < (l.map kD).length), decide (iz i < (l.map kE).length)])) else some (.head (hd Try.f21 0) (vT 1 n x (.val (.slice none 0 0)) (up1 i)) ⟨[rwB l, (2, none), (4, none)], 9⟩ (conj [false || decide (0 ≤ i), false || decide (i.toNat < n), false || decide (iz i < (l.map kB).length), !(!((l.map kB).getD (iz i) 0 == x) && false) || decide (0 ≤ i), !(!((l.map kB).getD (iz i) 0 == x) && false) || decide (i.toNat < n), !(!((l.map kB).getD (iz i) 0 == x) && false) || decide (iz i < (l.map kC).length)])))
    else some (.ret (.val (.slice none 0 0)) ⟨[], 99⟩ true) := by kernel_rfl
theorem v1_rY (l : List KV) (n : Nat) (x i : Int) (o : List KV) (q : Nat) : HO_ Try.prog [] Try.f21 (vC 9) [2] 99 [] (hd Try.f21 0) (vT 1 n x (.sl true 2 5 0 1 q none) i) ⟨[rwB l, (2, some ⟨true, true, .rows (colsF fs5 o)⟩)], 3⟩ =
    bif decide (i < Int.ofNat n) then (bif (bif (l.map kB).getD (iz i) 0 == x then true else false) then some (.head (hd Try.f21 0) (vT 1 n x (.sl true 4 5 0 1 (q + 1) none) (up1 i)) ⟨[rwB l, (2, none), (4, some ⟨true, true, .rows [.ints .i64 (List.take q (o.map kA) ++ [(l.map kA).getD (iz i) 0]), .ints .i64 (List.take q (o.map kB) ++ [(l.map kB).getD (iz i) 0]), .ints .i64 (List.take q (o.map kC) ++ [(l.map kC).getD (iz i) 0]), .ints .i64 (List.take q (o.map kD) ++ [(l.map kD).getD (iz i) 0]), .ints .i64 (List.take q (o.map kE) ++ [(l.map kE).getD (iz i) 0])]⟩)], 9⟩ (conj [false || decide (0 ≤ i), false || decide (i.toNat < n), false || decide (iz i < (l.map kB).length), !(!((l.map kB).getD (iz i) 0 == x) && false) || decide (0 ≤ i), !(!((l.map kB).getD (iz i) 0 == x) && false) || decide (i.toNat < n), !(!((l.map kB).getD (iz i) 0 == x) && false) || decide (iz i < (l.map kC).length), decide (0 ≤ i), decide (i.toNat < n), decide (iz i < (l.map kA).length), decide (iz i < (l.map kB).length), decide (iz i < (l.map kC).length), decide (iz i < (l.map kD).length), decide (iz i < (l.map kE).length), decide (0 < q), decide ((q + 1) * 40 ≤ 140737488355328), decide (q ≤ (o.map kA).length), decide (q ≤ (o.map kB).length), decide (q ≤ (o.map kC).length), decide (q ≤ (o.map kD).length), decide (q ≤ (o.map kE).length)])) else some (.head (hd Try.f21 0) (vT 1 n x (.sl true 2 5 0 1 q none) (up1 i)) ⟨[rwB l, (2, some ⟨true, true, .rows (colsF fs5 o)⟩), (4, none)], 9⟩ (conj [false || decide (0 ≤ i), false || decide (i.toNat < n), false || decide (iz i < (l.map kB).length), !(!((l.map kB).getD (iz i) 0 == x) && false) || decide (0 ≤ i), !(!((l.map kB).getD (iz i) 0 == x) && false) || decide (i.toNat < n), !(!((l.map kB).getD (iz i) 0 == x) && false) || decide (iz i < (l.map kC).length)])))
    else some (.ret (.sl true 2 5 0 1 q none) ⟨[(2, some ⟨true, true, .rows (colsF fs5 o)⟩)], 99⟩ true) := by kernel_rfl
theorem v1_loop (l : List KV) (hn : l.length ≤ 4096) (x : Int) : ∀ (j i : Nat) (o : List KV), i + j = l.length → o.length ≤ i →
    Gives_ Try.prog Try.f21 1 ⟨(hd Try.f21 0), vT 1 l.length x (vVl o) (i : Int), ⟨[rwB l] ++ vBl o, 3⟩⟩ (vVl (o ++ (l.drop i).filter (pClass x))) ⟨vBl (o ++ (l.drop i).filter (pClass x)), 99⟩
  | 0, i, o, hi, ho => by
    rw [List.drop_of_length_le (by omega), List.filter_nil, List.append_nil]
    match o with
    | [] =>
      have h := v1_rN l l.length x (i : Int)
      rw [decide_eq_false (show ¬ (i : Int) < Int.ofNat l.length by show ¬ (i : Int) < (l.length : Int); omega), cond_false] at h
      exact HO_ret env_nil mixedP rfl h rfl
    | e :: o =>
      have h := v1_rY l l.length x (i : Int) (e :: o) (e :: o).length
      rw [decide_eq_false (show ¬ (i : Int) < Int.ofNat l.length by show ¬ (i : Int) < (l.length : Int); omega), cond_false] at h
      exact HO_ret env_nil mixedP rfl h rfl
  | j + 1, i, o, hi, ho => by
    have hlt : i < l.length := by omega
    have hp : pClass x l[i] = (kB l[i] == x) := rfl
    rw [List.drop_eq_getElem_cons hlt, List.filter_cons, hp]
    match o, ho with
    | [], _ =>
      have h := v1_rN l l.length x (i : Int)
      rw [decide_eq_true (show (i : Int) < Int.ofNat l.length by show (i : Int) < (l.length : Int); omega), cond_true, mapD kA hlt, mapD kB hlt, mapD kC hlt, mapD kD hlt, mapD kE hlt, cond_tf, iz_nat, Int.toNat_natCast, decide_eq_true (show 0 ≤ (i : Int) by omega), up1_nat (by omega)] at h
      simp only [List.length_map] at h
      rw [decide_eq_true hlt] at h
      cases ht : (kB l[i] == x) with
      | true =>
        rw [ht, cond_true] at h
        rw [if_pos rfl, List.nil_append]
        have g := v1_loop l hn x j (i + 1) [l[i]] (by omega) (by simp)
        rw [List.singleton_append] at g
        exact Goes.gives ((HO_head env_nil mixedP rfl h rfl).trans (Goes.ren (P := Try.prog) (B := 1) (σ := [(0, 0), (2, 4)]) (nx := 3) rfl)) g
      | false =>
        rw [ht, cond_false] at h
        rw [if_neg (by simp)]
        exact Goes.gives ((HO_head env_nil mixedP rfl h rfl).trans (Goes.ren (P := Try.prog) (B := 1) (σ := [(0, 0)]) (nx := 3) rfl)) (v1_loop l hn x j (i + 1) [] (by omega) (by simp))
    | e :: o, ho =>
      have hol : (e :: o).length ≤ i := ho
      have h := v1_rY l l.length x (i : Int) (e :: o) (e :: o).length
      have e1 : ∀ f : KV → Int, List.take (e :: o).length ((e :: o).map f) = (e :: o).map f := fun f => List.take_of_length_le (by rw [List.length_map]; omega)
      have e2 : ∀ (f : KV → Int), (e :: o).map f ++ [f l[i]] = (e :: o ++ [l[i]]).map f := fun f => by rw [List.map_append]; rfl
      have e3 : (e :: o).length + 1 = (e :: o ++ [l[i]]).length := by simp
      rw [decide_eq_true (show (i : Int) < Int.ofNat l.length by show (i : Int) < (l.length : Int); omega), cond_true, mapD kA hlt, mapD kB hlt, mapD kC hlt, mapD kD hlt, mapD kE hlt, cond_tf, iz_nat, Int.toNat_natCast, decide_eq_true (show 0 ≤ (i : Int) by omega), e1, e1, e1, e1, e1, e2, e2, e2, e2, e2] at h
      have em : ∀ f : KV → Int, ((e :: o).map f).length = (e :: o).length := fun f => List.length_map ..
      have el : ∀ f : KV → Int, (l.map f).length = l.length := fun f => List.length_map ..
      rw [em, em, em, em, em] at h
      simp only [el] at h
      rw [decide_eq_true hlt, decide_eq_true (show 0 < (e :: o).length from Nat.succ_pos _), decide_eq_true (show ((e :: o).length + 1) * 40 ≤ 140737488355328 by omega),
        decide_eq_true (Nat.le_refl (e :: o).length), e3, up1_nat (by omega)] at h
      cases ht : (kB l[i] == x) with
      | true =>
        rw [ht, cond_true] at h
        rw [if_pos rfl, show ∀ F : List KV, (e :: o) ++ l[i] :: F = ((e :: o) ++ [l[i]]) ++ F from fun F => by simp]
        exact Goes.gives ((HO_head env_nil mixedP rfl h rfl).trans (Goes.ren (P := Try.prog) (B := 1) (σ := [(0, 0), (2, 4)]) (nx := 3) rfl)) (v1_loop l hn x j (i + 1) (e :: o ++ [l[i]]) (by omega) (by rw [← e3]; omega))
      | false =>
        rw [ht, cond_false] at h
        rw [if_neg (by simp)]
        exact Goes.gives ((HO_head env_nil mixedP rfl h rfl).trans (Goes.ren (P := Try.prog) (B := 1) (σ := [(0, 0), (2, 2)]) (nx := 3) rfl)) (v1_loop l hn x j (i + 1) (e :: o) (by omega) (by omega))
theorem v2_in (l : List KV) (n : Nat) (x : Int) : FO_ Try.prog [] Try.f21 (vC 9) [] 99 [] [.sl false 0 5 0 1 n none, vi 2, vi x] ⟨[rwB l], 1⟩ = some (.head (hd Try.f21 0) (vT 2 n x (.val (.slice none 0 0)) 0) ⟨[rwB l, (2, none), (4, none)], 9⟩ true) := by kernel_rfl
theorem v2_rN (l : List KV) (n : Nat) (x i : Int) : HO_ Try.prog [] Try.f21 (vC 9) [] 99 [] (hd Try.f21 0) (vT 2 n x (.val (.slice none 0 0)) i) ⟨[rwB l], 3⟩ =
    bif decide (i < Int.ofNat n) then (bif (decide (x ≤ (l.map kC).getD (iz i) 0)) then some (.head (hd Try.f21 0) (vT 2 n x (.sl true 4 5 0 1 1 none) (up1 i)) ⟨[rwB l, (2, none), (4, some ⟨true, true, .rows [.ints .i64 [(l.map kA).getD (iz i) 0], .ints .i64 [(l.map kB).getD (iz i) 0], .ints .i64 [(l.map kC).getD (iz i) 0], .ints .i64 [(l.map kD).getD (iz i) 0], .ints .i64 [(l.map kE).getD (iz i) 0]]⟩)], 9⟩ (conj [false || decide (0 ≤ i), false || decide (i.toNat < n), false || decide (iz i < (l.map kC).length), decide (0 ≤ i), decide (i.toNat < n), decide (iz i < (l.map kA).length), decide (iz i < (l.map kB).length), decide (iz i < (l.map kC).length), decide (iz i < (l.map kD).length), decide (iz i < (l.map kE).length)])) else some (.head (hd Try.f21 0) (vT 2 n x (.val (.slice none 0 0)) (up1 i)) ⟨[rwB l, (2, none), (4, none)], 9⟩ (conj [false || decide (0 ≤ i), false || decide (i.toNat < n), false || decide (iz i < (l.map kC).length)])))
    else some (.ret (.val (.slice none 0 0)) ⟨[], 99⟩ true) := by kernel_rfl
theorem v2_rY (l : List KV) (n : Nat) (x i : Int) (o : List KV) (q : Nat) : HO_ Try.prog [] Try.f21 (vC 9) [2] 99 [] (hd Try.f21 0) (vT 2 n x (.sl true 2 5 0 1 q none) i) ⟨[rwB l, (2, some ⟨true, true, .rows (colsF fs5 o)⟩)], 3⟩ =
    bif decide (i < Int.ofNat n) then (bif (decide (x ≤ (l.map kC).getD (iz i) 0)) then some (.head (hd Try.f21 0) (vT 2 n x (.sl true 4 5 0 1 (q + 1) none) (up1 i)) ⟨[rwB l, (2, none), (4, some ⟨true, true, .rows [.ints .i64 (List.take q (o.map kA) ++ [(l.map kA).getD (iz i) 0]), .ints .i64 (List.take q (o.map kB) ++ [(l.map kB).getD (iz i) 0]), .ints .i64 (List.take q (o.map kC) ++ [(l.map kC).getD (iz i) 0]), .ints .i64 (List.take q (o.map kD) ++ [(l.map kD).getD (iz i) 0]), .ints .i64 (List.take q (o.map kE) ++ [(l.map kE).getD (iz i) 0])]⟩)], 9⟩ (conj [false || decide (0 ≤ i), false || decide (i.toNat < n), false || decide (iz i < (l.map kC).length), decide (0 ≤ i), decide (i.toNat < n), decide (iz i < (l.map kA).length), decide (iz i < (l.map kB).length), decide (iz i < (l.map kC).length), decide (iz i < (l.map kD).length), decide (iz i < (l.map kE).length), decide (0 < q), decide ((q + 1) * 40 ≤ 140737488355328), decide (q ≤ (o.map kA).length), decide (q ≤ (o.map kB).length), decide (q ≤ (o.map kC).length), decide (q ≤ (o.map kD).length), decide (q ≤ (o.map kE).length)])) else some (.head (hd Try.f21 0) (vT 2 n x (.sl true 2 5 0 1 q none) (up1 i)) ⟨[rwB l, (2, some ⟨true, true, .rows (colsF fs5 o)⟩), (4, none)], 9⟩ (conj [false || decide (0 ≤ i), false || decide (i.toNat < n), false || decide (iz i < (l.map kC).length)])))
    else some (.ret (.sl true 2 5 0 1 q none) ⟨[(2, some ⟨true, true, .rows (colsF fs5 o)⟩)], 99⟩ true) := by kernel_rfl
theorem v2_loop (l : List KV) (hn : l.length ≤ 4096) (x : Int) : ∀ (j i : Nat) (o : List KV), i + j = l.length → o.length ≤ i →
    Gives_ Try.prog Try.f21 1 ⟨(hd Try.f21 0), vT 2 l.length x (vVl o) (i : Int), ⟨[rwB l] ++ vBl o, 3⟩⟩ (vVl (o ++ (l.drop i).filter (pOld x))) ⟨vBl (o ++ (l.drop i).filter (pOld x)), 99⟩
  | 0, i, o, hi, ho => by
    rw [List.drop_of_length_le (by omega), List.filter_nil, List.append_nil]
    match o with
    | [] =>
      have h := v2_rN l l.length x (i : Int)
      rw [decide_eq_false (show ¬ (i : Int) < Int.ofNat l.length by show ¬ (i : Int) < (l.length : Int); omega), cond_false] at h
      exact HO_ret env_nil mixedP rfl h rfl
    | e :: o =>
      have h := v2_rY l l.length x (i : Int) (e :: o) (e :: o).length
      rw [decide_eq_false (show ¬ (i : Int) < Int.ofNat l.length by show ¬ (i : Int) < (l.length : Int); omega), cond_false] at h
      exact HO_ret env_nil mixedP rfl h rfl
  | j + 1, i, o, hi, ho => by
    have hlt : i < l.length := by omega
    have hp : pOld x l[i] = (decide (x ≤ kC l[i])) := rfl
    rw [List.drop_eq_getElem_cons hlt, List.filter_cons, hp]
    match o, ho with
    | [], _ =>
      have h := v2_rN l l.length x (i : Int)
      rw [decide_eq_true (show (i : Int) < Int.ofNat l.length by show (i : Int) < (l.length : Int); omega), cond_true, mapD kA hlt, mapD kB hlt, mapD kC hlt, mapD kD hlt, mapD kE hlt, iz_nat, Int.toNat_natCast, decide_eq_true (show 0 ≤ (i : Int) by omega), up1_nat (by omega)] at h
      simp only [List.length_map] at h
      rw [decide_eq_true hlt] at h
      cases ht : (decide (x ≤ kC l[i])) with
      | true =>
        rw [ht, cond_true] at h
        rw [if_pos rfl, List.nil_append]
        have g := v2_loop l hn x j (i + 1) [l[i]] (by omega) (by simp)
        rw [List.singleton_append] at g
        exact Goes.gives ((HO_head env_nil mixedP rfl h rfl).trans (Goes.ren (P := Try.prog) (B := 1) (σ := [(0, 0), (2, 4)]) (nx := 3) rfl)) g
      | false =>
        rw [ht, cond_false] at h
        rw [if_neg (by simp)]
        exact Goes.gives ((HO_head env_nil mixedP rfl h rfl).trans (Goes.ren (P := Try.prog) (B := 1) (σ := [(0, 0)]) (nx := 3) rfl)) (v2_loop l hn x j (i + 1) [] (by omega) (by simp))
    | e :: o, ho =>
      have hol : (e :: o).length ≤ i := ho
      have h := v2_rY l l.length x (i : Int) (e :: o) (e :: o).length
      have e1 : ∀ f : KV → Int, List.take (e :: o).length ((e :: o).map f) = (e :: o).map f := fun f => List.take_of_length_le (by rw [List.length_map]; omega)
      have e2 : ∀ (f : KV → Int), (e :: o).map f ++ [f l[i]] = (e :: o ++ [l[i]]).map f := fun f => by rw [List.map_append]; rfl
      have e3 : (e :: o).length + 1 = (e :: o ++ [l[i]]).length := by simp
      rw [decide_eq_true (show (i : Int) < Int.ofNat l.length by show (i : Int) < (l.length : Int); omega), cond_true, mapD kA hlt, mapD kB hlt, mapD kC hlt, mapD kD hlt, mapD kE hlt, iz_nat, Int.toNat_natCast, decide_eq_true (show 0 ≤ (i : Int) by omega), e1, e1, e1, e1, e1, e2, e2, e2, e2, e2] at h
      have em : ∀ f : KV → Int, ((e :: o).map f).length = (e :: o).length := fun f => List.length_map ..
      have el : ∀ f : KV → Int, (l.map f).length = l.length := fun f => List.length_map ..
      rw [em, em, em, em, em] at h
      simp only [el] at h
      rw [decide_eq_true hlt, decide_eq_true (show 0 < (e :: o).length from Nat.succ_pos _), decide_eq_true (show ((e :: o).length + 1) * 40 ≤ 140737488355328 by omega),
        decide_eq_true (Nat.le_refl (e :: o).length), e3, up1_nat (by omega)] at h
      cases ht : (decide (x ≤ kC l[i])) with
      | true =>
        rw [ht, cond_true] at h
        rw [if_pos rfl, show ∀ F : List KV, (e :: o) ++ l[i] :: F = ((e :: o) ++ [l[i]]) ++ F from fun F => by simp]
        exact Goes.gives ((HO_head env_nil mixedP rfl h rfl).trans (Goes.ren (P := Try.prog) (B := 1) (σ := [(0, 0), (2, 4)]) (nx := 3) rfl)) (v2_loop l hn x j (i + 1) (e :: o ++ [l[i]]) (by omega) (by rw [← e3]; omega))
      | false =>
        rw [ht, cond_false] at h
        rw [if_neg (by simp)]
        exact Goes.gives ((HO_head env_nil mixedP rfl h rfl).trans (Goes.ren (P := Try.prog) (B := 1) (σ := [(0, 0), (2, 2)]) (nx := 3) rfl)) (v2_loop l hn x j (i + 1) (e :: o) (by omega) (by omega))
theorem v0_all (l : List KV) (hn : l.length ≤ 4096) (x : Int) : Gives_ Try.prog Try.f21 1 (enterA Try.f21 (bodyOf Try.f21) [.sl false 0 5 0 1 l.length none, vi 0, vi x] ⟨[rwB l], 1⟩) (vVl (l.filter (pSite x))) ⟨vBl (l.filter (pSite x)), 99⟩ := by
  have g := v0_loop l hn x l.length 0 [] (by omega) (Nat.le_refl _)
  rw [List.nil_append, List.drop_zero] at g
  exact Goes.gives ((FO_head (f := Try.f21) (c := bodyOf Try.f21) (m := ⟨[rwB l], 1⟩) (cuts := vC 9) env_nil mixedP rfl rfl (v0_in l l.length x) rfl).trans (Goes.ren (P := Try.prog) (B := 1) (σ := [(0, 0)]) (nx := 3) rfl)) g
theorem v1_all (l : List KV) (hn : l.length ≤ 4096) (x : Int) : Gives_ Try.prog Try.f21 1 (enterA Try.f21 (bodyOf Try.f21) [.sl false 0 5 0 1 l.length none, vi 1, vi x] ⟨[rwB l], 1⟩) (vVl (l.filter (pClass x))) ⟨vBl (l.filter (pClass x)), 99⟩ := by
  have g := v1_loop l hn x l.length 0 [] (by omega) (Nat.le_refl _)
  rw [List.nil_append, List.drop_zero] at g
  exact Goes.gives ((FO_head (f := Try.f21) (c := bodyOf Try.f21) (m := ⟨[rwB l], 1⟩) (cuts := vC 9) env_nil mixedP rfl rfl (v1_in l l.length x) rfl).trans (Goes.ren (P := Try.prog) (B := 1) (σ := [(0, 0)]) (nx := 3) rfl)) g
theorem v2_all (l : List KV) (hn : l.length ≤ 4096) (x : Int) : Gives_ Try.prog Try.f21 1 (enterA Try.f21 (bodyOf Try.f21) [.sl false 0 5 0 1 l.length none, vi 2, vi x] ⟨[rwB l], 1⟩) (vVl (l.filter (pOld x))) ⟨vBl (l.filter (pOld x)), 99⟩ := by
  have g := v2_loop l hn x l.length 0 [] (by omega) (Nat.le_refl _)
  rw [List.nil_append, List.drop_zero] at g
  exact Goes.gives ((FO_head (f := Try.f21) (c := bodyOf Try.f21) (m := ⟨[rwB l], 1⟩) (cuts := vC 9) env_nil mixedP rfl rfl (v2_in l l.length x) rfl).trans (Goes.ren (P := Try.prog) (B := 1) (σ := [(0, 0)]) (nx := 3) rfl)) g
theorem no_rows {fs : List (KV → Int)} : ∀ (r c' : Nat) (a : AV), (Cont.rows (colsF fs [])).at r c' ≠ some (a, true) := fun r c' a ha => by
  simp only [Cont.at, colsF, List.getElem?_map] at ha
  cases h : fs[c']? with
  | none => rw [h] at ha; cases ha
  | some f =>
    rw [h] at ha
    simp [Col.at] at ha
/-- Some of the rows l. -/
def e_someL (l : List KV) : Spec := fun m args => match args with
  | [.sl _ k 5 0 1 n _, .val (.int .i64 b), .val (.int .i64 x)] => match look m.bl k with
    | some ⟨_, _, .rows [.ints .i64 c0, .ints .i64 c1, .ints .i64 c2, .ints .i64 c3, .ints .i64 c4]⟩ => some (.sl false m.nx 5 0 1 (l.filter (someP b x)).length none, some ⟨(m.nx, some ⟨false, false, .rows (colsF fs5 (l.filter (someP b x)))⟩) :: m.bl, m.nx + 1⟩,
        [decide (b = 0 ∨ b = 1 ∨ b = 2), Nat.ble l.length 4096, decide (n = l.length), decide (c0 = l.map kA), decide (c1 = l.map kB), decide (c2 = l.map kC), decide (c3 = l.map kD), decide (c4 = l.map kE)])
    | _ => none
  | _ => none
theorem some_fin {m m1 : MS} {args args1 : List AV} {L : List KV} (hro : allRo m1.bl = true) (hsim : ∀ (ρ : Rho) (w : World) (xs : List Value), MRel ρ m w → AV.rels ρ m.nx args xs → ∃ ρ1, MRel ρ1 m1 w ∧ AV.rels ρ1 m1.nx args1 xs) {g : Nat} (h : FSound Try.prog g m1 args1 (vVl L) ⟨vBl L, 99⟩) :
    FSound Try.prog g m args (.sl false m.nx 5 0 1 L.length none) ⟨(m.nx, some ⟨false, false, .rows (colsF fs5 L)⟩) :: m.bl, m.nx + 1⟩ := by
  refine lift_list hro rfl rfl hsim ?_
  match L with
  | [] => exact .inl ⟨rfl, no_rows, _, h⟩
  | e :: L => exact .inr ⟨_, _, _, _, _, _, rfl, says_self rfl, h⟩
theorem ok_someL (l : List KV) : SpecOk Try.prog 21 (e_someL l) := fun m args v mo bs h hb => by
  unfold e_someL at h
  split at h
  · rename_i nn k n cap b x
    split at h <;> cases h
    rename_i _ _ c0 c1 c2 c3 c4 hl
    simp only [List.all_cons, List.all_nil, id, Bool.and_true, Bool.and_eq_true, decide_eq_true_eq] at hb
    obtain ⟨h0, h1, h2, e0, e1, e2, e3, e4⟩ := hb
    subst h2 e0 e1 e2 e3 e4
    have h1 := Nat.le_of_ble_eq_true h1
    rcases h0 with rfl | rfl | rfl
    · exact some_fin (m1 := ⟨[rwB l], 1⟩) rfl (sim_sl (br := [vi 0, vi x]) hl rfl rfl rfl) (fsound (c := bodyOf Try.f21) (fun xs w => Try.call21 xs w) Try.func21 rfl (v0_all l h1 x))
    · exact some_fin (m1 := ⟨[rwB l], 1⟩) rfl (sim_sl (br := [vi 1, vi x]) hl rfl rfl rfl) (fsound (c := bodyOf Try.f21) (fun xs w => Try.call21 xs w) Try.func21 rfl (v1_all l h1 x))
    · exact some_fin (m1 := ⟨[rwB l], 1⟩) rfl (sim_sl (br := [vi 2, vi x]) hl rfl rfl rfl) (fsound (c := bodyOf Try.f21) (fun xs w => Try.call21 xs w) Try.func21 rfl (v2_all l h1 x))
  · cases h
-- Total, of any columns
def toC (c : List Int) : Nat → Nat → Int → Int
  | _, 0, a => a
  | i, j + 1, a => toC c (i + 1) j (IntKind.i64.wrap (a + c.getD i 0))
theorem toC_map (f : KV → Int) (l : List KV) : ∀ (j i : Nat) (a : Int), i + j = l.length → toC (l.map f) i j a = totF (pTotal 0) f (l.drop i) a
  | 0, i, a, h => by rw [List.drop_of_length_le (by omega)]; rfl
  | j + 1, i, a, h => by
    have hlt : i < l.length := by omega
    rw [List.drop_eq_getElem_cons hlt, toC, totF, toC_map f l j (i + 1) _ (by omega), List.getD_eq_getElem?_getD, List.getElem?_map, List.getElem?_eq_getElem hlt]
    rfl
abbrev rwC (c0 c1 c2 c3 c4 : List Int) : Nat × Option ABlk := (0, some ⟨false, false, .rows [.ints .i64 c0, .ints .i64 c1, .ints .i64 c2, .ints .i64 c3, .ints .i64 c4]⟩)
abbrev uM (c0 c1 c2 c3 c4 : List Int) (a b : Int) (nx : Nat) : MS := ⟨[rwC c0 c1 c2 c3 c4, (1, some ⟨true, false, .cells [vi 0, vi 0]⟩), (2, some ⟨true, false, .cells [vi a, vi b]⟩)], nx⟩
theorem u_in (c0 c1 c2 c3 c4 : List Int) (n : Nat) : F_ Try.prog [] Try.f20 (yC 3) [] 99 [.sl false 0 5 0 1 n none] ⟨[rwC c0 c1 c2 c3 c4], 1⟩ = some (.head (hd Try.f20 0) (yT n 0) (uM c0 c1 c2 c3 c4 0 0 3) true) := by kernel_rfl
theorem u_round (c0 c1 c2 c3 c4 : List Int) (n : Nat) (a b i : Int) : H_ Try.prog [] Try.f20 (yC 3) [] 99 (hd Try.f20 0) (yT n i) (uM c0 c1 c2 c3 c4 a b 3) =
    bif decide (i < Int.ofNat n) then some (.head (hd Try.f20 0) (yT n (up1 i)) (uM c0 c1 c2 c3 c4 (IntKind.i64.wrap (a + c3.getD (iz i) 0)) (IntKind.i64.wrap (b + c4.getD (iz i) 0)) 3) (conj [decide (0 ≤ i), decide (i.toNat < n), decide (iz i < c3.length), decide (0 ≤ i), decide (i.toNat < n), decide (iz i < c4.length)]))
    else some (.ret (.agg [vi a, vi b]) ⟨[], 99⟩ true) := by kernel_rfl
theorem u_loop (c0 c1 c2 c3 c4 : List Int) (n : Nat) (hn : n ≤ 4096) (h3 : n ≤ c3.length) (h4 : n ≤ c4.length) : ∀ (j i : Nat) (a b : Int), i + j = n →
    Gives_ Try.prog Try.f20 1 ⟨hd Try.f20 0, yT n (i : Int), uM c0 c1 c2 c3 c4 a b 3⟩ (.agg [vi (toC c3 i j a), vi (toC c4 i j b)]) ⟨[], 99⟩
  | 0, i, a, b, hi => by
    have h := u_round c0 c1 c2 c3 c4 n a b (i : Int)
    rw [decide_eq_false (show ¬ (i : Int) < Int.ofNat n by show ¬ (i : Int) < (n : Int); omega), cond_false] at h
    exact H_ret (cuts := yC 3) (ns := []) (top := 99) env_nil mixedP rfl h
  | j + 1, i, a, b, hi => by
    have h := u_round c0 c1 c2 c3 c4 n a b (i : Int)
    rw [decide_eq_true (show (i : Int) < Int.ofNat n by show (i : Int) < (n : Int); omega), cond_true, iz_nat, Int.toNat_natCast, decide_eq_true (show 0 ≤ (i : Int) by omega), decide_eq_true (show i < n by omega), decide_eq_true (show i < c3.length by omega), decide_eq_true (show i < c4.length by omega), up1_nat (by omega)] at h
    exact Goes.gives (H_head (f := Try.f20) (cuts := yC 3) (ns := []) (top := 99) env_nil mixedP rfl h) (u_loop c0 c1 c2 c3 c4 n hn h3 h4 j (i + 1) _ _ (by omega))
def e_rtot : Spec := fun m args => match args with
  | [.sl _ b 5 0 1 n _] => match look m.bl b with
    | some ⟨_, _, .rows [.ints .i64 _, .ints .i64 _, .ints .i64 _, .ints .i64 c3, .ints .i64 c4]⟩ => some (.agg [vi (toC c3 0 n 0), vi (toC c4 0 n 0)], none, [Nat.ble n 4096, Nat.ble n c3.length, Nat.ble n c4.length])
    | _ => none
  | _ => none
theorem ok_rtot : SpecOk Try.prog 20 e_rtot := fun m args v mo bs h hb => by
  unfold e_rtot at h
  split at h
  · rename_i nn b n cap
    split at h <;> cases h
    rename_i _ _ _ c0 c1 c2 c3 c4 hl
    simp only [List.all_cons, List.all_nil, id, Bool.and_true, Bool.and_eq_true] at hb
    obtain ⟨h1, h2, h3⟩ := hb
    exact lift_s hl rfl rfl (fsound (m := ⟨[rwC c0 c1 c2 c3 c4], 1⟩) (c := bodyOf Try.f20) (fun xs w => Try.call20 xs w) Try.func20 rfl (Goes.gives (F_head (f := Try.f20) (c := bodyOf Try.f20) (m := ⟨[rwC c0 c1 c2 c3 c4], 1⟩) (cuts := yC 3) (ns := []) (top := 99) env_nil mixedP rfl rfl (u_in c0 c1 c2 c3 c4 n)) (u_loop c0 c1 c2 c3 c4 n (Nat.le_of_ble_eq_true h1) (Nat.le_of_ble_eq_true h2) (Nat.le_of_ble_eq_true h3) n 0 0 0 (by omega)))) rfl
  · cases h
end Go.Proofs.Ytbjealobiblabaa

namespace Go.Proofs.Ytbjealobiblabaa
open Go Go.ChangeShapes Go.WideShapes Go.ChangeAt Go.RowKit Go.Deep
/-- The kind of a column. -/
inductive CK where
  | i (k : IntKind)
  | b
def CK.under : CK → TypeDesc → Bool
  | .i k, .int k' => decide (k = k')
  | .b, .bool => true
  | _, _ => false
def CK.val : CK → Value → Prop
  | .i k, v => ∃ z, v = .int k z ∧ (Lit.int k z).wf = true
  | .b, v => ∃ z, v = .bool z
def CK.fits : CK → Nat → Col → Prop
  | .i k, n, cl => ∃ zs, cl = .ints k zs ∧ zs.length = n ∧ ∀ j, j < n → (Lit.int k (zs.getD j 0)).wf = true
  | .b, n, cl => ∃ zs, cl = .bools zs ∧ zs.length = n
def Fits (n : Nat) : List CK → List Col → Prop
  | [], cs => cs = []
  | k :: ks, cs => ∃ cl r, cs = cl :: r ∧ k.fits n cl ∧ Fits n ks r
theorem col_of (k : CK) (n : Nat) (cell : Nat → Option Value) (h : ∀ j, j < n → ∃ v, cell j = some v ∧ k.val v) : ∃ cl : Col, k.fits n cl ∧ (n = 0 → ∀ r, (cl.at r).2 = false) ∧ ∀ r v, cl.at r = (.val v, true) → cell r = some v := by
  cases k with
  | i k =>
    obtain ⟨zs, hl, hz⟩ := lists_of (0 : Int) (p := fun j z => cell j = some (.int k z) ∧ (Lit.int k z).wf = true) n fun j hj => by
      obtain ⟨v, h1, z, rfl, h2⟩ := h j hj
      exact ⟨z, h1, h2⟩
    refine ⟨.ints k zs, ⟨zs, rfl, hl, fun j hj => (hz j hj).2⟩, fun h0 r => by simp [Col.at]; omega, fun r v hv => ?_⟩
    simp only [Col.at, Prod.mk.injEq, AV.val.injEq, decide_eq_true_eq] at hv
    obtain ⟨rfl, hr⟩ := hv
    exact (hz r (by omega)).1
  | b =>
    obtain ⟨zs, hl, hz⟩ := lists_of false (p := fun j z => cell j = some (.bool z)) n fun j hj => by
      obtain ⟨v, h1, z, rfl⟩ := h j hj
      exact ⟨z, h1⟩
    refine ⟨.bools zs, ⟨zs, rfl, hl⟩, fun h0 r => by simp [Col.at]; omega, fun r v hv => ?_⟩
    simp only [Col.at, Prod.mk.injEq, AV.val.injEq, decide_eq_true_eq] at hv
    obtain ⟨rfl, hr⟩ := hv
    exact hz r (by omega)
theorem cols_of (n : Nat) : ∀ (ks : List CK) (cell : Nat → Nat → Option Value), (∀ c k, ks[c]? = some k → ∀ j, j < n → ∃ v, cell j c = some v ∧ k.val v) →
    ∃ cs : List Col, cs.length = ks.length ∧ Fits n ks cs ∧ (n = 0 → ∀ (c : Nat) (cl : Col) (r : Nat), cs[c]? = some cl → (cl.at r).2 = false) ∧ ∀ (c : Nat) (cl : Col) (r : Nat) (v : Value), cs[c]? = some cl → cl.at r = (.val v, true) → cell r c = some v
  | [], _, _ => ⟨[], rfl, rfl, fun _ c cl r h => by simp at h, fun c cl r v h => by simp at h⟩
  | k :: ks, cell, h => by
    obtain ⟨cl, h1, h2, h3⟩ := col_of k n (fun j => cell j 0) (fun j hj => h 0 k rfl j hj)
    obtain ⟨cs, g1, g2, g3, g4⟩ := cols_of n ks (fun j c => cell j (c + 1)) (fun c k hk j hj => h (c + 1) k (by simpa using hk) j hj)
    refine ⟨cl :: cs, by simp [g1], ⟨cl, cs, rfl, h1, g2⟩, fun h0 c d r hc => ?_, fun c d r v hc hv => ?_⟩
    · cases c with
      | zero => simp at hc; subst hc; exact h2 h0 r
      | succ c => exact g3 h0 c d r (by simpa using hc)
    · cases c with
      | zero => simp at hc; subst hc; exact h3 r v hv
      | succ c => exact g4 c d r v (by simpa using hc) hv
def fieldsAre (P : Program) : List Field → List CK → Bool
  | [], [] => true
  | f :: fs, k :: ks => (match P.underlying f.type with
    | some u => k.under u
    | none => false) && fieldsAre P fs ks
  | _, _ => false
theorem fields_at {P : Program} : ∀ {fs : List Field} {ks : List CK}, fieldsAre P fs ks = true → fs.length = ks.length ∧ ∀ (c : Nat) k, ks[c]? = some k → ∃ f u, fs[c]? = some f ∧ P.underlying f.type = some u ∧ k.under u = true
  | [], [], _ => ⟨rfl, fun c k h => by simp at h⟩
  | [], _ :: _, h => by simp [fieldsAre] at h
  | _ :: _, [], h => by simp [fieldsAre] at h
  | f :: fs, k :: ks, h => by
    simp only [fieldsAre, Bool.and_eq_true] at h
    obtain ⟨h1, h2⟩ := h
    obtain ⟨g1, g2⟩ := fields_at h2
    refine ⟨by simp [g1], fun c k' hk => ?_⟩
    cases c with
    | zero =>
      simp at hk
      subst hk
      cases hu : P.underlying f.type with
      | none => rw [hu] at h1; cases h1
      | some u => rw [hu] at h1; exact ⟨f, u, rfl, hu, h1⟩
    | succ c =>
      obtain ⟨f', u, hf, hu, hk'⟩ := g2 c k' (by simpa using hk)
      exact ⟨f', u, by simpa using hf, hu, hk'⟩
set_option maxRecDepth 100000 in
/-- A slice of flat structs came in. -/
theorem open_rows {H : Type} {enc : TypeId × Value → H} {w : World} {base : Nat} {held : Bool} {r : Reach} {b0 : Nat} {v : Value} {d : DataW H} {ps : List MemPlace} {t e : TypeId} {fs : Array Field} (ks : List CK)
    (ht : Try.prog.underlying t = some (.slice e)) (he : Try.prog.underlying e = some (.struct fs)) (hone : oneCellFields Try.prog fs = true) (hC : Try.prog.cellsOf e = fs.size) (hpos : 0 < fs.size) (hks : fieldsAre Try.prog fs.toList ks = true)
    (hval : Value.okWide Try.prog w r b0 t v) (h : DataW.Trod enc Try.prog w base (fun _ => true) held t v d ps) :
    ∃ (A : Option Addr) (n c : Nat) (cs : List Col) (i : LI), v = .slice A n c ∧ n ≤ c ∧ c ≤ 9223372036854775807 ∧ Fits n ks cs ∧ InB w A n (.rows cs) i := by
  obtain ⟨A, n, c, rfl, h1, h2, h3⟩ := open_structs ht he hone hC hpos hval h
  obtain ⟨hl, hat⟩ := fields_at hks
  have hsz : fs.size = ks.length := by simpa using hl
  have hrow : ∀ (b o : Nat), (∀ i, i < n → ∀ (j : Nat) (f : Field), fs[j]? = some f → ∃ u, w.cell? ⟨b, o + (i * fs.size + j), none⟩ = some u ∧ ∃ m y, DataW.trod enc Try.prog w base (fun _ => true) held m f.type [u] = some y) →
      ∀ c k, ks[c]? = some k → ∀ j, j < n → ∃ v, w.cell? ⟨b, o + (j * ks.length + c), none⟩ = some v ∧ k.val v := fun b o hi c k hk j hj => by
    obtain ⟨f, u, hf, hu, hku⟩ := hat c k hk
    obtain ⟨x, hx, hx2⟩ := hi j hj c f (by simpa using hf)
    rw [hsz] at hx
    refine ⟨x, hx, ?_⟩
    cases k with
    | i k =>
      cases u <;> simp only [CK.under] at hku <;> try cases hku
      rename_i k'
      have := of_decide_eq_true hku
      subst this
      exact field_int hu hx2
    | b =>
      cases u <;> simp only [CK.under] at hku <;> try cases hku
      exact field_bool hu hx2
  have hc : c ≤ 9223372036854775807 := by unfold maxLen at h2; omega
  by_cases hn : 0 < n
  · obtain ⟨b, o, e, hb, hi⟩ := h3 hn
    obtain ⟨cs, g1, g2, g3, g4⟩ := cols_of n ks (fun j c => w.cell? ⟨b, o + (j * ks.length + c), none⟩) (hrow b o hi)
    obtain ⟨i, hin⟩ := in_rows (w := w) (A := A) (n := n) (cs := cs) (fun h => by omega) (fun _ => ⟨b, o, e, hb, fun c cl r v hc hv => by
      have := g4 c cl r v hc hv
      rw [← g1] at this
      exact this⟩)
    exact ⟨A, n, c, cs, i, rfl, h1, hc, g2, hin⟩
  · have h0 : n = 0 := by omega
    obtain ⟨cs, g1, g2, g3, _⟩ := cols_of n ks (fun _ _ => none) (fun c k _ j hj => by omega)
    obtain ⟨i, hin⟩ := in_rows (w := w) (A := A) (n := n) (cs := cs) (fun h => g3 h) (fun h => absurd h hn)
    exact ⟨A, n, c, cs, i, rfl, h1, hc, g2, hin⟩
end Go.Proofs.Ytbjealobiblabaa

namespace Go.Proofs.Ytbjealobiblabaa
open Go Go.ChangeShapes Go.WideShapes Go.ChangeAt Go.RowKit Go.Deep
theorem list_cons {α : Type} {l : List α} {n : Nat} (h : l.length = n + 1) : ∃ a r, l = a :: r ∧ r.length = n := by
  cases l with
  | nil => cases h
  | cons a r => exact ⟨a, r, rfl, by simpa using h⟩
theorem list_nil {α : Type} {l : List α} (h : l.length = 0) : l = [] := List.eq_nil_of_length_eq_zero h
def repL {α : Type} : Nat → List α → List α
  | 0, _ => []
  | n + 1, l => l ++ repL n l
def leavesF (P : Program) (rec : TypeId → Option (List TypeId)) : List Field → Nat → Option (List TypeId)
  | [], _ => some []
  | f :: fs, off => match rec f.type with
    | some l => match Nat.beq f.offset off && Nat.beq l.length (P.cellsOf f.type) with
      | true => match leavesF P rec fs (off + l.length) with
        | some r => some (l ++ r)
        | none => none
      | false => none
    | none => none
def leavesT (P : Program) : Nat → TypeId → Option (List TypeId)
  | 0, _ => none
  | d + 1, t => match P.underlying t with
    | some (.struct fs) => leavesF P (leavesT P d) fs.toList 0
    | some (.array n e) => match leavesT P d e with
      | some l => match Nat.beq l.length (P.cellsOf e) with
        | true => some (repL n l)
        | false => none
      | none => none
    | some _ => some [t]
    | none => none
section
variable {H : Type} {enc : TypeId × Value → H} {P : Program} {w : World} {base : Nat} {spare : Nat → Bool} {held : Bool}
abbrev LeafOk (enc : TypeId × Value → H) (P : Program) (w : World) (base : Nat) (spare : Nat → Bool) (held : Bool) (ls : List TypeId) (cs : List Value) : Prop :=
  ∀ (j : Nat) (τ : TypeId) (u : Value), ls[j]? = some τ → cs[j]? = some u → ∃ m y, DataW.trod enc P w base spare held m τ [u] = some y
theorem repL_get {α : Type} {l : List α} : ∀ (n j : Nat) (x : α), (repL n l)[j]? = some x → ∃ i k, i < n ∧ j = i * l.length + k ∧ l[k]? = some x
  | 0, j, x, h => by simp [repL] at h
  | n + 1, j, x, h => by
    simp only [repL] at h
    by_cases hj : j < l.length
    · rw [List.getElem?_append_left hj] at h
      exact ⟨0, j, by omega, by omega, h⟩
    · rw [List.getElem?_append_right (by omega)] at h
      obtain ⟨i, k, h1, h2, h3⟩ := repL_get n _ x h
      refine ⟨i + 1, k, by omega, ?_, h3⟩
      rw [Nat.add_mul]
      omega
theorem leavesF_get {rec : TypeId → Option (List TypeId)} : ∀ (fs : List Field) (off : Nat) (ls : List TypeId) (j : Nat) (τ : TypeId), leavesF P rec fs off = some ls → ls[j]? = some τ →
    ∃ (i : Nat) (f : Field) (l : List TypeId) (k : Nat), fs[i]? = some f ∧ rec f.type = some l ∧ l[k]? = some τ ∧ off + j = f.offset + k ∧ l.length = P.cellsOf f.type
  | [], off, ls, j, τ, h, hj => by cases h; simp at hj
  | f :: fs, off, ls, j, τ, h, hj => by
    simp only [leavesF] at h
    cases hr : rec f.type with
    | none => rw [hr] at h; cases h
    | some l =>
      rw [hr] at h
      dsimp only at h
      split at h
      · rename_i hc
        simp only [Bool.and_eq_true] at hc
        have h1 := Nat.eq_of_beq_eq_true hc.1
        have h2 := Nat.eq_of_beq_eq_true hc.2
        cases hr2 : leavesF P rec fs (off + l.length) with
        | none => rw [hr2] at h; cases h
        | some r =>
          rw [hr2] at h
          cases h
          by_cases hjl : j < l.length
          · rw [List.getElem?_append_left hjl] at hj
            exact ⟨0, f, l, j, rfl, hr, hj, by omega, h2⟩
          · rw [List.getElem?_append_right (by omega)] at hj
            obtain ⟨i, f', l', k, g1, g2, g3, g4, g5⟩ := leavesF_get fs _ r _ τ hr2 hj
            exact ⟨i + 1, f', l', k, by simpa using g1, g2, g3, by omega, g5⟩
      · cases h
theorem take_at {α : Type} {l : List α} {o c k : Nat} {u : α} (hk : k < c) (h : l[o + k]? = some u) : ((l.drop o).take c)[k]? = some u := by
  rw [List.getElem?_take_of_lt hk, List.getElem?_drop]
  exact h
theorem leaf_ok : ∀ (d : Nat) (t : TypeId) (ls : List TypeId) (n : Nat) (cs : List Value) (y : DataW H × List MemPlace), leavesT P d t = some ls → ls.length = P.cellsOf t → cs.length = P.cellsOf t → DataW.trod enc P w base spare held n t cs = some y → LeafOk enc P w base spare held ls cs
  | 0, t, ls, n, cs, y, h, _, _, _ => by cases h
  | d + 1, t, ls, n, cs, y, h, hlen, hcl, ht => by
    intro j τ u hj hu
    simp only [leavesT] at h
    have leaf : ls = [t] → ∃ m y, DataW.trod enc P w base spare held m τ [u] = some y := fun e => by
      subst e
      cases j with
      | succ j => simp at hj
      | zero =>
        simp at hj
        subst hj
        have : cs = [u] := by
          match cs, hcl.trans hlen.symm, hu with
          | [x], _, hu => simpa using hu
        subst this
        exact ⟨n, y, ht⟩
    cases hu' : P.underlying t with
    | none => rw [hu'] at h; cases h
    | some ty =>
      rw [hu'] at h
      cases ty with
      | struct fs =>
        dsimp only at h
        obtain ⟨xs, m, _, _, _, hl2, hg⟩ := DataW.trod_struct hu' ht
        obtain ⟨i, f, l, k, g1, g2, g3, g4, g5⟩ := leavesF_get fs.toList 0 ls j τ h hj
        have hf : fs[i]? = some f := by simpa using g1
        have h1 := hg i f hf
        have hil : i < fs.size := (Array.getElem?_eq_some_iff.1 hf).1
        have hx : xs[i]? = some (xs[i]'(by omega)) := List.getElem?_eq_getElem (by omega)
        have hk : k < P.cellsOf f.type := by rw [← g5]; exact (List.getElem?_eq_some_iff.1 g3).1
        have hut := take_at (c := P.cellsOf f.type) hk (show cs[f.offset + k]? = some u by rw [← g4, Nat.zero_add]; exact hu)
        have hfit : f.offset + P.cellsOf f.type ≤ cs.length := by
          have hend : ∀ (fs : List Field) (off : Nat) (ls : List TypeId), leavesF P (leavesT P d) fs off = some ls → ∀ f ∈ fs, f.offset + P.cellsOf f.type ≤ off + ls.length := by
            intro fs
            induction fs with
            | nil => intro off ls h f hf; cases hf
            | cons f0 fs ih =>
              intro off ls h f hf
              simp only [leavesF] at h
              cases hr : leavesT P d f0.type with
              | none => rw [hr] at h; cases h
              | some l0 =>
                rw [hr] at h
                dsimp only at h
                split at h
                · rename_i hc
                  simp only [Bool.and_eq_true] at hc
                  have h1 := Nat.eq_of_beq_eq_true hc.1
                  have h2 := Nat.eq_of_beq_eq_true hc.2
                  cases hr2 : leavesF P (leavesT P d) fs (off + l0.length) with
                  | none => rw [hr2] at h; cases h
                  | some r =>
                    rw [hr2] at h
                    cases h
                    rw [List.length_append]
                    rcases List.mem_cons.1 hf with rfl | hf
                    · omega
                    · have := ih _ _ hr2 f hf
                      omega
                · cases h
          have := hend fs.toList 0 ls h f (List.mem_of_getElem? g1)
          omega
        exact leaf_ok d f.type l m _ _ g2 g5 (by rw [List.length_take, List.length_drop]; omega) (h1.trans hx) k τ u g3 hut
      | array n' e =>
        dsimp only at h
        cases hle : leavesT P d e with
        | none => rw [hle] at h; cases h
        | some l =>
          rw [hle] at h
          dsimp only at h
          split at h
          · rename_i hc
            have hc := Nat.eq_of_beq_eq_true hc
            cases h
            obtain ⟨xs, m, _, _, _, hl2, hg⟩ := DataW.trod_array hu' ht
            obtain ⟨i, k, g1, g2, g3⟩ := repL_get _ _ _ hj
            have h1 := hg i g1
            have hx : xs[i]? = some (xs[i]'(by omega)) := List.getElem?_eq_getElem (by omega)
            have hk : k < P.cellsOf e := by rw [← hc]; exact (List.getElem?_eq_some_iff.1 g3).1
            have hut := take_at (c := P.cellsOf e) hk (show cs[i * P.cellsOf e + k]? = some u by rw [← hc, ← g2]; exact hu)
            have hlr : ∀ n : Nat, (repL n l).length = n * l.length := fun n => by
              induction n with
              | zero => simp [repL]
              | succ n ih => simp only [repL, List.length_append, ih, Nat.add_mul]; omega
            have hfit : i * P.cellsOf e + P.cellsOf e ≤ cs.length := by
              rw [hcl, ← hlen, hlr, ← hc, ← Nat.succ_mul]
              exact Nat.mul_le_mul_right _ g1
            exact leaf_ok d e l m _ _ hle hc (by rw [List.length_take, List.length_drop]; omega) (h1.trans hx) k τ u g3 hut
          · cases h
      | _ => exact leaf (by cases h; rfl)
/-- A value of nested structs and arrays came in. -/
theorem open_flat {r : Reach} {b0 : Nat} {t : TypeId} {v : Value} {x : DataW H} {p : List MemPlace} {ls : List TypeId} {ty : TypeDesc} (hu : P.underlying t = some ty) (hag : (match ty with | .struct _ => true | .array _ _ => true | _ => false) = true) (hl : leavesT P 9 t = some ls) (hC : P.cellsOf t = ls.length)
    (hv : Value.okWide P w r b0 t v) (h : DataW.Trod enc P w base spare held t v x p) :
    ∃ l : List Value, v = .agg l.toArray ∧ l.length = ls.length ∧ LeafOk enc P w base spare held ls l := by
  have hsh : ∃ cs : Array Value, v = .agg cs ∧ cs.size = P.cellsOf t := by
    cases ty with
    | struct fs => exact okWide_struct hu hv
    | array n e => exact okWide_array hu hv
    | _ => cases hag
  obtain ⟨⟨l⟩, rfl, hsz⟩ := hsh
  have hsz : l.length = P.cellsOf t := hsz
  obtain ⟨fuel, hf⟩ := h
  have e2 : (Value.agg l.toArray).cells.toList = l := by simp [Value.cells]
  rw [e2] at hf
  exact ⟨l, rfl, by rw [hsz, hC], leaf_ok 9 t ls fuel l _ hl hC.symm hsz hf⟩
end
def leavesAre (P : Program) : List TypeId → List CK → Bool
  | [], [] => true
  | t :: ts, k :: ks => (match P.underlying t with
    | some u => k.under u
    | none => false) && leavesAre P ts ks
  | _, _ => false
theorem leaves_at {P : Program} : ∀ {ls : List TypeId} {ks : List CK}, leavesAre P ls ks = true → ls.length = ks.length ∧ ∀ (c : Nat) k, ks[c]? = some k → ∃ τ u, ls[c]? = some τ ∧ P.underlying τ = some u ∧ k.under u = true
  | [], [], _ => ⟨rfl, fun c k h => by simp at h⟩
  | [], _ :: _, h => by simp [leavesAre] at h
  | _ :: _, [], h => by simp [leavesAre] at h
  | f :: fs, k :: ks, h => by
    simp only [leavesAre, Bool.and_eq_true] at h
    obtain ⟨h1, h2⟩ := h
    obtain ⟨g1, g2⟩ := leaves_at h2
    refine ⟨by simp [g1], fun c k' hk => ?_⟩
    cases c with
    | zero =>
      simp at hk
      subst hk
      cases hu : P.underlying f with
      | none => rw [hu] at h1; cases h1
      | some u => rw [hu] at h1; exact ⟨f, u, rfl, hu, h1⟩
    | succ c =>
      obtain ⟨f', u, hf, hu, hk'⟩ := g2 c k' (by simpa using hk)
      exact ⟨f', u, by simpa using hf, hu, hk'⟩
set_option maxRecDepth 100000 in
theorem open_nest {H : Type} {enc : TypeId × Value → H} {P : Program} {w : World} {base : Nat} {held : Bool} {r : Reach} {b0 : Nat} {t e : TypeId} {ls : List TypeId} {v : Value} {d : DataW H} {ps : List MemPlace} (ht : P.underlying t = some (.slice e)) (hl : leavesT P 9 e = some ls) (hC : P.cellsOf e = ls.length) (hpos : 0 < ls.length)
    (hval : Value.okWide P w r b0 t v) (h : DataW.Trod enc P w base (fun _ => true) held t v d ps) :
    ∃ (A : Option Addr) (n c : Nat), v = .slice A n c ∧ n ≤ c ∧ c ≤ maxLen ∧ (0 < n → ∃ b o, A = some ⟨b, o, none⟩ ∧ b < w.heap.size ∧
      ∀ i, i < n → ∀ (j : Nat) (τ : TypeId), ls[j]? = some τ → ∃ u, w.cell? ⟨b, o + (i * ls.length + j), none⟩ = some u ∧ ∃ m y, DataW.trod enc P w base (fun _ => true) held m τ [u] = some y) := by
  obtain ⟨fuel, hf⟩ := h
  obtain ⟨A, n, c, rfl⟩ := okWide_slice ht hval
  rcases open_slice ht hf with ⟨hcs, hx⟩ | ⟨a, len, cap, m, k, D, Pl, hcs, _, hl', hm, hmm, hx, hi⟩
  · simp [Value.cells] at hcs
    obtain ⟨rfl, rfl, rfl⟩ := hcs
    exact ⟨none, 0, 0, rfl, Nat.le_refl _, by simp [maxLen], fun h => absurd h (by omega)⟩
  · simp [Value.cells] at hcs
    obtain ⟨rfl, rfl, rfl⟩ := hcs
    simp only [if_true] at hmm
    refine ⟨some a, n, c, rfl, hl', hm, fun hn => ?_⟩
    have each : ∀ i, i < n → ∀ (j : Nat) (τ : TypeId), ls[j]? = some τ → ∃ u, w.cell? (a.add (i * ls.length + j)) = some u ∧ ∃ m y, DataW.trod enc P w base (fun _ => true) held m τ [u] = some y := fun i hin j τ hj => by
      obtain ⟨cs', hc, ht'⟩ := hi i (by omega)
      rw [hC] at hc
      obtain ⟨_, hcl, hat⟩ := World.cells?_some hc
      have hjl : j < ls.length := (List.getElem?_eq_some_iff.1 hj).1
      have hcell := hat j hjl
      have hv : cs'[j]? = some (cs'[j]'(by omega)) := List.getElem?_eq_getElem (by omega)
      have hlo := leaf_ok 9 e ls _ cs' _ hl hC.symm (by omega) ht' j τ _ hj hv
      refine ⟨_, ?_, hlo⟩
      rw [← Go.Deep.add_add, hcell, hv]
    obtain ⟨τ0, hf0⟩ : ∃ f, ls[0]? = some f := ⟨ls[0], List.getElem?_eq_getElem hpos⟩
    obtain ⟨u0, h0, _⟩ := each 0 hn 0 τ0 hf0
    have hs : a.spot = none := by simpa [Addr.add] using World.cell?_spot h0
    obtain ⟨b, o, sp⟩ := a
    simp only at hs
    subst hs
    refine ⟨b, o, rfl, by simpa [Addr.add] using cell_lt h0, fun i hin j f hj => ?_⟩
    obtain ⟨u, h1, h2⟩ := each i hin j f hj
    have e1 : (⟨b, o, none⟩ : Addr).add (i * ls.length + j) = ⟨b, o + (i * ls.length + j), none⟩ := by unfold Addr.add; split <;> simp_all
    rw [e1] at h1
    exact ⟨u, h1, h2⟩
set_option maxRecDepth 100000 in
/-- A slice of nested structs came in. -/
theorem open_nrows {H : Type} {enc : TypeId × Value → H} {w : World} {base : Nat} {held : Bool} {r : Reach} {b0 : Nat} {v : Value} {d : DataW H} {ps : List MemPlace} {t e : TypeId} {ls : List TypeId} (ks : List CK)
    (ht : Try.prog.underlying t = some (.slice e)) (hl : leavesT Try.prog 9 e = some ls) (hC : Try.prog.cellsOf e = ls.length) (hpos : 0 < ls.length) (hks : leavesAre Try.prog ls ks = true)
    (hval : Value.okWide Try.prog w r b0 t v) (h : DataW.Trod enc Try.prog w base (fun _ => true) held t v d ps) :
    ∃ (A : Option Addr) (n c : Nat) (cs : List Col) (i : LI), v = .slice A n c ∧ n ≤ c ∧ c ≤ 9223372036854775807 ∧ Fits n ks cs ∧ InB w A n (.rows cs) i := by
  obtain ⟨A, n, c, rfl, h1, h2, h3⟩ := open_nest ht hl hC hpos hval h
  obtain ⟨hll, hat⟩ := leaves_at hks
  have hsz : ls.length = ks.length := hll
  have hrow : ∀ (b o : Nat), (∀ i, i < n → ∀ (j : Nat) (τ : TypeId), ls[j]? = some τ → ∃ u, w.cell? ⟨b, o + (i * ls.length + j), none⟩ = some u ∧ ∃ m y, DataW.trod enc Try.prog w base (fun _ => true) held m τ [u] = some y) →
      ∀ c k, ks[c]? = some k → ∀ j, j < n → ∃ v, w.cell? ⟨b, o + (j * ks.length + c), none⟩ = some v ∧ k.val v := fun b o hi c k hk j hj => by
    obtain ⟨f, u, hf, hu, hku⟩ := hat c k hk
    obtain ⟨x, hx, hx2⟩ := hi j hj c f hf
    rw [hsz] at hx
    refine ⟨x, hx, ?_⟩
    cases k with
    | i k =>
      cases u <;> simp only [CK.under] at hku <;> try cases hku
      rename_i k'
      have := of_decide_eq_true hku
      subst this
      exact field_int hu hx2
    | b =>
      cases u <;> simp only [CK.under] at hku <;> try cases hku
      exact field_bool hu hx2
  have hc : c ≤ 9223372036854775807 := by unfold maxLen at h2; omega
  by_cases hn : 0 < n
  · obtain ⟨b, o, e, hb, hi⟩ := h3 hn
    obtain ⟨cs, g1, g2, g3, g4⟩ := cols_of n ks (fun j c => w.cell? ⟨b, o + (j * ks.length + c), none⟩) (hrow b o hi)
    obtain ⟨i, hin⟩ := in_rows (w := w) (A := A) (n := n) (cs := cs) (fun h => by omega) (fun _ => ⟨b, o, e, hb, fun c cl r v hc hv => by
      have := g4 c cl r v hc hv
      rw [← g1] at this
      exact this⟩)
    exact ⟨A, n, c, cs, i, rfl, h1, hc, g2, hin⟩
  · have h0 : n = 0 := by omega
    obtain ⟨cs, g1, g2, g3, _⟩ := cols_of n ks (fun _ _ => none) (fun c k _ j hj => by omega)
    obtain ⟨i, hin⟩ := in_rows (w := w) (A := A) (n := n) (cs := cs) (fun h => g3 h) (fun h => absurd h hn)
    exact ⟨A, n, c, cs, i, rfl, h1, hc, g2, hin⟩
end Go.Proofs.Ytbjealobiblabaa

namespace Go.Proofs.Ytbjealobiblabaa
open Go Go.ChangeShapes Go.WideShapes Go.ChangeAt Go.RowKit Go.Deep
set_option maxRecDepth 100000
/-- Rows, as said. -/
def e_rowsL (l : List KV) : Spec := fun m args => match args with
  | [.val (.pointer none)] => some (.val (.slice none 0 0), none, [])
  | [.ptr b 1 0 0] => match look m.bl b with
    | some ⟨_, _, .cells [.mp lm]⟩ => match look m.bl lm with
      | some ⟨_, _, .obj (.mpo 3 2 es)⟩ => some (.sl false m.nx 5 0 1 l.length none, some ⟨(m.nx, some ⟨false, false, .rows (colsF fs5 l)⟩) :: m.bl, m.nx + 1⟩, [decide (KD es), Nat.ble es.length 4096, decide (sortK es = l)])
      | _ => none
    | _ => none
  | _ => none
theorem ok_rowsL (l : List KV) : SpecOk Try.prog 18 (e_rowsL l) := fun m args v mo bs h hb => by
  unfold e_rowsL at h
  split at h
  · cases h
    exact ok_rows m [.val (.pointer none)] _ none [] rfl rfl
  · rename_i b
    split at h <;> try cases h
    rename_i wr op lm hl
    split at h <;> cases h
    rename_i _ wr' op' es hlm
    obtain ⟨h1, hb⟩ := all_cons hb
    obtain ⟨h2, hb⟩ := all_cons hb
    have h3 : sortK es = l := by simpa using hb
    subst h3
    have g := ok_rows m [.ptr b 1 0 0] (.sl false m.nx 5 0 1 es.length none) (some ⟨(m.nx, some ⟨false, false, .rows (colsF fs5 (sortK es))⟩) :: m.bl, m.nx + 1⟩) [decide (KD es), Nat.ble es.length 4096] (by
      simp only [e_rows, hl, hlm]) (by
      simp only [List.all_cons, List.all_nil, Bool.and_true, Bool.and_eq_true]
      exact ⟨h1, h2⟩)
    rw [sortK_len]
    exact g
  · cases h
abbrev L_aw (P : Program) (f : Func) (l : List KV) : List (FuncId × Spec) := [(47, inl P [] f), (28, e_add), (18, e_rowsL l)]
theorem hE_aw (l : List KV) : ESound Try.prog (envOf (L_aw Try.prog Try.f47 l)) := env_cons (inl_ok env_nil mixedP (fun xs w => Try.call47 xs w) Try.func47 rfl) (env_cons ok_add (env_cons (ok_rowsL l) env_nil))
theorem aw_run : F_ Try.prog (L_aw Try.prog Try.f47 [([4, 2, 1], [2, 6])]) Try.f10 [] [] 99 [] noMem = some (.ret (vb true) ⟨[], 99⟩ true) := by kernel_rfl
def e_aw23 : Spec := fun _ args => match args with
  | [] => some (vb true, none, [])
  | _ => none
theorem ok_aw23 : SpecOk Try.prog 10 e_aw23 := fun m args v mo bs h hb => by
  unfold e_aw23 at h
  split at h <;> cases h
  exact pure_fn (c := bodyOf Try.f10) (hE_aw _) mixedP (fun xs w => Try.call10 xs w) Try.func10 rfl aw_run rfl rfl
abbrev L_pa : List (FuncId × Spec) := [(10, e_aw23), (11, e_of), (12, e_Site), (13, e_Class), (14, e_Total), (15, e_Old)]
theorem hE_pa : ESound Try.prog (envOf L_pa) := env_cons ok_aw23 (env_cons ok_of (env_cons ok_Site (env_cons ok_Class (env_cons ok_Total (env_cons ok_Old env_nil)))))
abbrev pC (a : Nat) : List Cut := [(2,[3,4,5,6,8],[1,2,3,4],a)]
abbrev pT (i j : AV) : List AV := [.unk, .unk, .unk, .ptr 2 1 0 0, .ptr 3 1 0 0, .ptr 4 1 0 0, i, .unk, j] ++ List.replicate 67 .unk
abbrev pM (es : List KV) (a a' b b' : Int) (nx : Nat) : MS := ⟨[(1, some ⟨true, false, .obj (.mpo 3 2 es)⟩), (2, some ⟨true, false, .cells [.mp 1]⟩), (3, some ⟨true, false, .cells [vi a, vi a']⟩), (4, some ⟨true, false, .cells [vi b, vi b']⟩)], nx⟩
theorem pa_big (P R S A : List Int) (G : List Bool) (nn : Bool) (n : Nat) (c : Option Nat) : FO_ Try.prog L_pa Try.f3 (pC 9) [] 99 [2, 1] [.sl nn 0 5 0 1 n c] ⟨[(0, some ⟨false, false, hdC P R S A G⟩)], 1⟩ = some (.ret (vb true) ⟨[], 99⟩ (conj [decide (60 < Int.ofNat n)])) := by kernel_rfl
theorem pa_in (P R S A : List Int) (G : List Bool) (nn : Bool) (n : Nat) (c : Option Nat) : FO_ Try.prog L_pa Try.f3 (pC 9) [] 99 [2, 0] [.sl nn 0 5 0 1 n c] ⟨[(0, some ⟨false, false, hdC P R S A G⟩)], 1⟩ =
    some (.head (hd Try.f3 0) (pT (vi 0) .unk) (pM (ofF P R S A 0 n []) 0 0 0 0 9) (conj [!decide (60 < Int.ofNat n), Nat.ble n 4096, Nat.ble n P.length, Nat.ble n R.length, Nat.ble n S.length, Nat.ble n A.length, Nat.ble n G.length])) := by kernel_rfl
theorem pa_r1 (es : List KV) (a a' b b' i : Int) : H_ Try.prog L_pa Try.f3 (pC 9) [] 99 (hd Try.f3 0) (pT (vi i) .unk) (pM es a a' b b' 5) =
    bif decide (i < 32) then some (.head (hd Try.f3 0) (pT (vi (up1 i)) .unk) (pM es (IntKind.i64.wrap (a + totF (pSite i) kD (sortK es) 0)) (IntKind.i64.wrap (a' + totF (pSite i) kE (sortK es) 0)) b b' 9) (conj [decide (KD es), Nat.ble es.length 4096]))
    else some (.head (hd Try.f3 1) (pT (vi i) (vi 0)) (pM es a a' b b' 9) true) := by kernel_rfl
abbrev E1 (es : List KV) (a a' : Int) : Bool := a == totF (pTotal 0) kD (sortK es) 0 && (a' == totF (pTotal 0) kE (sortK es) 0 && true)
abbrev E2 (es : List KV) (a a' b b' : Int) : Bool := bif E1 es a a' then b == totF (pTotal 0) kD (sortK es) 0 && (b' == totF (pTotal 0) kE (sortK es) 0 && true) else false
abbrev E3 (es : List KV) (a a' b b' : Int) : Bool := bif E2 es a a' b b' then totF (pOld 0) kD (sortK es) 0 == totF (pTotal 0) kD (sortK es) 0 && (totF (pOld 0) kE (sortK es) 0 == totF (pTotal 0) kE (sortK es) 0 && true) else false
abbrev E4 (es : List KV) (a a' b b' : Int) : Bool := bif E3 es a a' b b' then totF (pOld 8) kD (sortK es) 0 == 0 && (totF (pOld 8) kE (sortK es) 0 == 0 && true) else false
theorem pa_r2 (es : List KV) (a a' b b' i j : Int) : H_ Try.prog L_pa Try.f3 (pC 9) [] 99 (hd Try.f3 1) (pT (vi i) (vi j)) (pM es a a' b b' 5) =
    bif decide (j < 14) then some (.head (hd Try.f3 1) (pT (vi i) (vi (up1 j))) (pM es a a' (IntKind.i64.wrap (b + totF (pClass j) kD (sortK es) 0)) (IntKind.i64.wrap (b' + totF (pClass j) kE (sortK es) 0)) 9) (conj [decide (KD es), Nat.ble es.length 4096]))
    else some (.ret (vb (E4 es a a' b b')) ⟨[], 99⟩ (conj [decide (KD es), Nat.ble es.length 4096, !E1 es a a' || decide (KD es), !E1 es a a' || Nat.ble es.length 4096, !E2 es a a' b b' || decide (KD es), !E2 es a a' b b' || Nat.ble es.length 4096, !E2 es a a' b b' || decide (KD es), !E2 es a a' b b' || Nat.ble es.length 4096, !E3 es a a' b b' || decide (KD es), !E3 es a a' b b' || Nat.ble es.length 4096])) := by kernel_rfl
section
variable {es : List KV} {H : List Hd}
theorem pa_end (h : Holds es H) (hH : H.length ≤ 4096) (hl : es.length ≤ 4096) (i : Int) : Gives_ Try.prog Try.f3 1 ⟨hd Try.f3 1, pT (vi i) (vi ((14 : Nat) : Int)), pM es (accF kA kD (sortK es) 32) (accF kA kE (sortK es) 32) (accF kB kD (sortK es) 14) (accF kB kE (sortK es) 14) 5⟩ (vb true) ⟨[], 99⟩ := by
  have hr := fun e he => h.row hH (e := e) he
  have hlen : (sortK es).length ≤ 4096 := by rw [sortK_len]; exact hl
  have t := fun (p : KV → Bool) (f : KV → Int) (hf : ∀ e ∈ sortK es, 0 ≤ f e ∧ f e ≤ MX) => tot_sum p f (sortK es) 0 hf (by omega) (by unfold MX; omega)
  have hD : ∀ e ∈ sortK es, 0 ≤ kD e ∧ kD e ≤ MX := fun e he => (hr e he).2.2.2.1
  have hE : ∀ e ∈ sortK es, 0 ≤ kE e ∧ kE e ≤ MX := fun e he => (hr e he).2.2.2.2.1
  have e1 : E1 es (accF kA kD (sortK es) 32) (accF kA kE (sortK es) 32) = true := by
    unfold E1
    rw [t _ _ hD, t _ _ hE, accF_all kA kD 32 _ (fun e he => (hr e he).1), accF_all kA kE 32 _ (fun e he => (hr e he).1)]
    simp
  have e2 : E2 es (accF kA kD (sortK es) 32) (accF kA kE (sortK es) 32) (accF kB kD (sortK es) 14) (accF kB kE (sortK es) 14) = true := by
    unfold E2
    rw [e1, t _ _ hD, t _ _ hE, accF_all kB kD 14 _ (fun e he => (hr e he).2.1), accF_all kB kE 14 _ (fun e he => (hr e he).2.1)]
    simp
  have ho : ∀ e ∈ sortK es, pOld 0 e = pTotal 0 e := fun e he => decide_eq_true (hr e he).2.2.1.1
  have ho8 : ∀ e ∈ sortK es, pOld 8 e = false := fun e he => decide_eq_false (by have := (hr e he).2.2.1.2; omega)
  have e3 : E3 es (accF kA kD (sortK es) 32) (accF kA kE (sortK es) 32) (accF kB kD (sortK es) 14) (accF kB kE (sortK es) 14) = true := by
    unfold E3
    rw [e2, t _ _ hD, t _ _ hE, t _ _ hD, t _ _ hE, sumP_congr ho, sumP_congr ho]
    simp
  have e4 : E4 es (accF kA kD (sortK es) 32) (accF kA kE (sortK es) 32) (accF kB kD (sortK es) 14) (accF kB kE (sortK es) 14) = true := by
    unfold E4
    rw [e3, t _ _ hD, t _ _ hE, sumP_none ho8, sumP_none ho8]
    simp
  have he := pa_r2 es (accF kA kD (sortK es) 32) (accF kA kE (sortK es) 32) (accF kB kD (sortK es) 14) (accF kB kE (sortK es) 14) i ((14 : Nat) : Int)
  rw [decide_eq_false (show ¬ ((14 : Nat) : Int) < 14 by omega), cond_false, e1, e2, e3, e4, decide_eq_true h.1, Nat.ble_eq_true_of_le hl] at he
  exact H_ret (cuts := pC 9) (ns := []) (top := 99) hE_pa mixedP rfl he
theorem pa_loop2 (h : Holds es H) (hH : H.length ≤ 4096) (hl : es.length ≤ 4096) (i : Int) : ∀ (j k : Nat), k + j = 14 → Gives_ Try.prog Try.f3 1 ⟨hd Try.f3 1, pT (vi i) (vi (k : Int)), pM es (accF kA kD (sortK es) 32) (accF kA kE (sortK es) 32) (accF kB kD (sortK es) k) (accF kB kE (sortK es) k) 5⟩ (vb true) ⟨[], 99⟩
  | 0, k, hk => by
    have : k = 14 := by omega
    subst this
    exact pa_end h hH hl i
  | j + 1, k, hk => by
    have hr := fun e he => h.row hH (e := e) he
    have hlen : (sortK es).length ≤ 4096 := by rw [sortK_len]; exact hl
    have hD : ∀ e ∈ sortK es, 0 ≤ kD e ∧ kD e ≤ MX := fun e he => (hr e he).2.2.2.1
    have hE : ∀ e ∈ sortK es, 0 ≤ kE e ∧ kE e ≤ MX := fun e he => (hr e he).2.2.2.2.1
    have he := pa_r2 es (accF kA kD (sortK es) 32) (accF kA kE (sortK es) 32) (accF kB kD (sortK es) k) (accF kB kE (sortK es) k) i (k : Int)
    have b1 := accF_bounds kB kD (sortK es) hD hlen k
    have b2 := accF_bounds kB kE (sortK es) hE hlen k
    have b3 := sumP_bounds (pClass (k : Int)) kD (sortK es) hD
    have b4 := sumP_bounds (pClass (k : Int)) kE (sortK es) hE
    unfold MX at b3 b4
    rw [decide_eq_true (show (k : Int) < 14 by omega), cond_true, up1_nat (by omega), tot_sum _ _ _ 0 hD (by omega) (by unfold MX; omega), tot_sum _ _ _ 0 hE (by omega) (by unfold MX; omega), Int.zero_add, Int.zero_add, wr64 _ (by omega) (by omega), wr64 _ (by omega) (by omega), decide_eq_true h.1, Nat.ble_eq_true_of_le hl] at he
    exact Goes.gives ((H_head (f := Try.f3) (cuts := pC 9) (ns := []) (top := 99) hE_pa mixedP rfl he).trans (Goes.ren (P := Try.prog) (B := 1) (σ := [(1, 1), (2, 2), (3, 3), (4, 4)]) (nx := 5) rfl)) (pa_loop2 h hH hl i j (k + 1) (by omega))
theorem pa_loop1 (h : Holds es H) (hH : H.length ≤ 4096) (hl : es.length ≤ 4096) : ∀ (j k : Nat), k + j = 32 → Gives_ Try.prog Try.f3 1 ⟨hd Try.f3 0, pT (vi (k : Int)) .unk, pM es (accF kA kD (sortK es) k) (accF kA kE (sortK es) k) 0 0 5⟩ (vb true) ⟨[], 99⟩
  | 0, k, hk => by
    have : k = 32 := by omega
    subst this
    have he := pa_r1 es (accF kA kD (sortK es) 32) (accF kA kE (sortK es) 32) 0 0 ((32 : Nat) : Int)
    rw [decide_eq_false (show ¬ ((32 : Nat) : Int) < 32 by omega), cond_false] at he
    exact Goes.gives ((H_head (f := Try.f3) (cuts := pC 9) (ns := []) (top := 99) hE_pa mixedP rfl he).trans (Goes.ren (P := Try.prog) (B := 1) (σ := [(1, 1), (2, 2), (3, 3), (4, 4)]) (nx := 5) rfl)) (pa_loop2 h hH hl _ 14 0 (by omega))
  | j + 1, k, hk => by
    have hr := fun e he => h.row hH (e := e) he
    have hlen : (sortK es).length ≤ 4096 := by rw [sortK_len]; exact hl
    have hD : ∀ e ∈ sortK es, 0 ≤ kD e ∧ kD e ≤ MX := fun e he => (hr e he).2.2.2.1
    have hE : ∀ e ∈ sortK es, 0 ≤ kE e ∧ kE e ≤ MX := fun e he => (hr e he).2.2.2.2.1
    have he := pa_r1 es (accF kA kD (sortK es) k) (accF kA kE (sortK es) k) 0 0 (k : Int)
    have b1 := accF_bounds kA kD (sortK es) hD hlen k
    have b2 := accF_bounds kA kE (sortK es) hE hlen k
    have b3 := sumP_bounds (pSite (k : Int)) kD (sortK es) hD
    have b4 := sumP_bounds (pSite (k : Int)) kE (sortK es) hE
    unfold MX at b3 b4
    rw [decide_eq_true (show (k : Int) < 32 by omega), cond_true, up1_nat (by omega), tot_sum _ _ _ 0 hD (by omega) (by unfold MX; omega), tot_sum _ _ _ 0 hE (by omega) (by unfold MX; omega), Int.zero_add, Int.zero_add, wr64 _ (by omega) (by omega), wr64 _ (by omega) (by omega), decide_eq_true h.1, Nat.ble_eq_true_of_le hl] at he
    exact Goes.gives ((H_head (f := Try.f3) (cuts := pC 9) (ns := []) (top := 99) hE_pa mixedP rfl he).trans (Goes.ren (P := Try.prog) (B := 1) (σ := [(1, 1), (2, 2), (3, 3), (4, 4)]) (nx := 5) rfl)) (pa_loop1 h hH hl j (k + 1) (by omega))
end
theorem parts_any (A : Option Addr) (n c : Nat) (cs : List Col) (i : LI) (w : World) (hin : InB w A n (.rows cs) i) (hnc : n ≤ c) (hf : Fits n [.i .i64, .i .i64, .i .i64, .i .i64, .b] cs) : Gives 3 #[.slice A n c] w (.bool true) := by
  obtain ⟨_, _, rfl, ⟨P, rfl, h1, _⟩, _, _, rfl, ⟨R, rfl, h2, _⟩, _, _, rfl, ⟨S, rfl, h3, _⟩, _, _, rfl, ⟨Q, rfl, h4, _⟩, _, _, rfl, ⟨G, rfl, h5⟩, rfl⟩ := hf
  have hm : MRel (fun _ => i) ⟨[(0, some ⟨false, false, hdC P R S Q G⟩)], 1⟩ w := mrel_one (hin.ok _ _)
  have hx : AV.rels (fun _ => i) 1 [.sl false 0 5 0 1 n (some c)] [.slice A n c] := by
    simp only [AV.rels]
    exact ⟨_, _, rfl, hin.arg (ρ := fun _ => i) (by omega) hnc 5 1, rfl⟩
  refine gives_true (c := bodyOf Try.f3) (m' := ⟨[], 99⟩) Try.func3 rfl ?_ rfl hm hx
  by_cases hn : 60 < n
  · have he := pa_big P R S Q G false n (some c)
    rw [decide_eq_true (show (60 : Int) < Int.ofNat n by show (60 : Int) < (n : Int); omega)] at he
    exact FO_ret hE_pa mixedP rfl rfl he rfl
  · have he := pa_in P R S Q G false n (some c)
    rw [decide_eq_false (show ¬ (60 : Int) < Int.ofNat n by show ¬ (60 : Int) < (n : Int); omega), Nat.ble_eq_true_of_le (show n ≤ 4096 by omega), Nat.ble_eq_true_of_le (show n ≤ P.length by omega), Nat.ble_eq_true_of_le (show n ≤ R.length by omega), Nat.ble_eq_true_of_le (show n ≤ S.length by omega), Nat.ble_eq_true_of_le (show n ≤ Q.length by omega), Nat.ble_eq_true_of_le (show n ≤ G.length by omega)] at he
    have hh := of_holds P R S Q n 0 [] [] holds_nil (by simp; omega)
    have hl := of_len P R S Q n 0 []
    simp only [List.length_nil, Nat.zero_add] at hl
    exact Goes.gives ((FO_head (f := Try.f3) (c := bodyOf Try.f3) (cuts := pC 9) (ns := []) (top := 99) hE_pa mixedP rfl rfl he rfl).trans (Goes.ren (P := Try.prog) (B := 1) (σ := [(1, 1), (2, 2), (3, 3), (4, 4)]) (nx := 5) rfl)) (pa_loop1 hh (by rw [List.nil_append, hdI_len]; omega) (by omega) 32 0 (by omega))
set_option maxRecDepth 100000 in
theorem censusParts_lifted (os : Os) (started : os.Started) (H : Type) (enc : TypeId × Value → H) :
    ReturnsInHanded {} Try.checked os 3 .any (Rows.censusPartsSpec.pre6 enc Try.prog Try.f3 Rows.censusPartsRow.domain false) (Rows.censusPartsSpec.post enc Try.prog Try.f3 false true false false) := by
  refine returnsInHanded_of_change (C := Try.checked) Try.own started (by kernel_rfl) Try.func3
    (ChangeSpec.witness6 (enc := enc) (C := Try.checked) false ⟨#[], #[.slice none 0 0], []⟩ 8 (by kernel_rfl) (by kernel_rfl) (by kernel_rfl) (by kernel_rfl)) ?_
  intro W base args ds gs before hval0 hW hcnd hsized
  have hval : ∀ (j : Nat) t v, Try.f3.params[j]? = some t → args[j]? = some v → Value.okWide Try.prog W .any base t v := hval0
  have hW' := hW
  obtain ⟨p, q, hA0, hV, rfl, hfz, hnd⟩ := hW
  have hA : DataW.TrodAll enc Try.prog W 0 (fun _ => true) true Try.f3.params.toList args.toList ds p := hA0
  rw [Try.params3] at hA hval
  obtain ⟨v0, d0, rfl, rfl, h0⟩ := trodAll_one hA
  obtain ⟨A, n, c, cs, i, rfl, hnc, hc, hf, hin⟩ := open_nrows [.i .i64, .i .i64, .i .i64, .i .i64, .b] Try.underlying22 (show leavesT Try.prog 9 50 = some [3, 3, 3, 3, 4] by kernel_rfl) (by kernel_rfl) (by decide) (by kernel_rfl) (hval 0 _ v0 rfl rfl) h0
  refine Gives.use (parts_any A n c cs i W hin hnc hf) fun W' hb => ?_
  exact ⟨_, rfl, law_post Try.laidOut (by kernel_rfl) (by kernel_rfl) Try.underlying4 rfl hW' ⟨rfl, rfl, rfl⟩ hb⟩
theorem censusParts_holds : Rows.CensusPartsSaid :=
  OpenClaim.holds_of_wide 3 Try.f3 rfl rfl rfl rfl rfl rfl rfl ⟨rfl, rfl, rfl, rfl, rfl⟩ rfl rfl rfl rfl rfl (by kernel_rfl) Try.func3 (by kernel_rfl)
    (of_decide_eq_true (by kernel_rfl)) (by unfold Func.isWrapper; first | (rw [if_pos (by decide +kernel)]; kernel_rfl) | (rw [if_neg (by decide +kernel)]; exact ⟨rfl, rfl⟩))
    (fun os started H enc _ => censusParts_lifted os started H enc)
end Go.Proofs.Ytbjealobiblabaa

namespace Go.Proofs.Ytbjealobiblabaa
open Go Go.RowKit
def s_haymowlaw23_sum (n_0 : Int) (n_1 : Int) : AV := AV.agg [AV.val (Value.int IntKind.i64 n_0), AV.val (Value.int IntKind.i64 n_1)]
theorem t_haymowlaw23_sum (n_0 : Int) (n_1 : Int) : F_ Try.prog L_census_Of Try.f19 [] [] 99 [AV.agg [AV.val (Value.int IntKind.i64 n_0), AV.val (Value.int IntKind.i64 n_1)]] noMem = some (.ret (s_haymowlaw23_sum n_0 n_1) { bl := [], nx := 99 } true) := by kernel_rfl
def e_haymowlaw23_sum : Spec := fun _ args => match args with
  | [.agg [.val (.int .i64 n_0), .val (.int .i64 n_1)]] => some (s_haymowlaw23_sum n_0 n_1, none, [])
  | _ => none
theorem ok_haymowlaw23_sum : SpecOk Try.prog 19 e_haymowlaw23_sum := fun m args v mo bs h hb => by
  unfold e_haymowlaw23_sum at h
  split at h
  · cases h
    exact pure_fn (c := bodyOf Try.f19) hE_census_Of mixedP (fun xs w => Try.call19 xs w) Try.func19 rfl (t_haymowlaw23_sum _ _) rfl rfl
  · cases h
def L_haymowlaw23_sum : List (FuncId × Spec) := (19, e_haymowlaw23_sum) :: L_census_Of
theorem hE_haymowlaw23_sum : ESound Try.prog (envOf L_haymowlaw23_sum) := env_cons ok_haymowlaw23_sum hE_census_Of
end Go.Proofs.Ytbjealobiblabaa

namespace Go.Proofs.Ytbjealobiblabaa
open Go Go.RowKit
set_option maxRecDepth 100000
abbrev xC (a : Nat) : List Cut := [(15,[0,3,4,5,6,7,8],[0,2,3,4],a),(10,[0,3,4,5,6],[0,3,5],a),(6,[0,3,4,5],[0,3],a),(2,[0,3,4],[0,3],a)]
abbrev xT (nn : Bool) (n : Nat) (c : Option Nat) (v : AV) (s k a : AV) (r : AV) (i : AV) : List AV := [.sl nn 0 5 0 1 n c, .unk, .unk, v, s, k, a, r, i] ++ List.replicate 76 .unk
abbrev xV (l : List KV) : AV := match l with
  | [] => .val (.slice none 0 0)
  | _ :: _ => .sl true 3 5 0 1 l.length none
abbrev xB (l : List KV) : List (Nat × Option ABlk) := match l with
  | [] => []
  | _ :: _ => [(3, some ⟨true, true, .rows (colsF fs5 l)⟩)]
abbrev x0 (P R S A : List Int) (G : List Bool) : Nat × Option ABlk := (0, some ⟨false, false, hdC P R S A G⟩)
abbrev x2 (s k a o w : Int) : Nat × Option ABlk := (2, some ⟨true, false, .cells [vi s, vi k, vi a, vi o, vi w]⟩)
theorem x1N (P R S A : List Int) (G : List Bool) (nn : Bool) (n : Nat) (c : Option Nat) (s : Int) : H_ Try.prog L_census_Sum_plus Try.f16 (xC 9) [] 99 (hd Try.f16 0) (xT nn n c (.val (.slice none 0 0)) (vi s) .unk .unk .unk .unk) ⟨[x0 P R S A G], 4⟩ =
    bif decide (s < 32) then some (.head (hd Try.f16 1) (xT nn n c (.val (.slice none 0 0)) (vi s) (vi 0) .unk .unk .unk) ⟨[x0 P R S A G, (3, none)], 9⟩ true) else some (.ret (.val (.slice none 0 0)) ⟨[], 99⟩ true) := by kernel_rfl
theorem x2N (P R S A : List Int) (G : List Bool) (nn : Bool) (n : Nat) (c : Option Nat) (s k : Int) : H_ Try.prog L_census_Sum_plus Try.f16 (xC 9) [] 99 (hd Try.f16 1) (xT nn n c (.val (.slice none 0 0)) (vi s) (vi k) .unk .unk .unk) ⟨[x0 P R S A G], 4⟩ =
    bif decide (k < 14) then some (.head (hd Try.f16 2) (xT nn n c (.val (.slice none 0 0)) (vi s) (vi k) (vi 0) .unk .unk) ⟨[x0 P R S A G, (3, none), (5, none)], 9⟩ true) else some (.head (hd Try.f16 0) (xT nn n c (.val (.slice none 0 0)) (vi (up1 s)) .unk .unk .unk .unk) ⟨[x0 P R S A G, (3, none)], 9⟩ true) := by kernel_rfl
theorem x3N (P R S A : List Int) (G : List Bool) (nn : Bool) (n : Nat) (c : Option Nat) (s k a : Int) : H_ Try.prog L_census_Sum_plus Try.f16 (xC 9) [] 99 (hd Try.f16 2) (xT nn n c (.val (.slice none 0 0)) (vi s) (vi k) (vi a) .unk .unk) ⟨[x0 P R S A G], 4⟩ =
    bif decide (a < 8) then some (.head (hd Try.f16 3) (xT nn n c (.val (.slice none 0 0)) (vi s) (vi k) (vi a) (.ptr 4 1 0 0) (vi 0)) ⟨[x0 P R S A G, (2, none), (3, none), (4, some ⟨true, false, .cells [vi s, vi k, vi a, vi 0, vi 0]⟩)], 9⟩ true) else some (.head (hd Try.f16 1) (xT nn n c (.val (.slice none 0 0)) (vi s) (vi (up1 k)) .unk .unk .unk) ⟨[x0 P R S A G, (3, none)], 9⟩ true) := by kernel_rfl
theorem x4N (P R S A : List Int) (G : List Bool) (nn : Bool) (n : Nat) (c : Option Nat) (s k a o w i : Int) : H_ Try.prog L_census_Sum_plus Try.f16 (xC 9) [] 99 (hd Try.f16 3) (xT nn n c (.val (.slice none 0 0)) (vi s) (vi k) (vi a) (.ptr 2 1 0 0) (vi i)) ⟨[x0 P R S A G, x2 s k a o w], 4⟩ =
    bif decide (i < Int.ofNat n) then (bif (bif (bif (bif (haymowref12_Check_0 (P.getD (iz i) 0) (R.getD (iz i) 0) (S.getD (iz i) 0) (A.getD (iz i) 0) (G.getD (iz i) false) == 0) then (S.getD (iz i) 0) == s else false) then (A.getD (iz i) 0) == a else false) then haymowref04_Of_0 (haymowref13_Words_0 (P.getD (iz i) 0) (R.getD (iz i) 0)) == k else false) then some (.head (hd Try.f16 3) (xT nn n c (.val (.slice none 0 0)) (vi s) (vi k) (vi a) (.ptr 2 1 0 0) (vi (up1 i))) ⟨[x0 P R S A G, x2 s k a (IntKind.i64.wrap (o + 1)) (IntKind.i64.wrap (w + haymowref13_Words_0 (P.getD (iz i) 0) (R.getD (iz i) 0))), (3, none), (4, none)], 9⟩ (conj [decide (0 ≤ i), decide (i.toNat < n), decide (iz i < P.length), decide (iz i < R.length), decide (0 ≤ i), decide (i.toNat < n), decide (iz i < P.length), decide (iz i < R.length), decide (iz i < S.length), decide (iz i < A.length), decide (iz i < G.length), !(haymowref12_Check_0 (P.getD (iz i) 0) (R.getD (iz i) 0) (S.getD (iz i) 0) (A.getD (iz i) 0) (G.getD (iz i) false) == 0) || decide (0 ≤ i), !(haymowref12_Check_0 (P.getD (iz i) 0) (R.getD (iz i) 0) (S.getD (iz i) 0) (A.getD (iz i) 0) (G.getD (iz i) false) == 0) || decide (i.toNat < n), !(haymowref12_Check_0 (P.getD (iz i) 0) (R.getD (iz i) 0) (S.getD (iz i) 0) (A.getD (iz i) 0) (G.getD (iz i) false) == 0) || decide (iz i < S.length), !(bif (haymowref12_Check_0 (P.getD (iz i) 0) (R.getD (iz i) 0) (S.getD (iz i) 0) (A.getD (iz i) 0) (G.getD (iz i) false) == 0) then (S.getD (iz i) 0) == s else false) || decide (0 ≤ i), !(bif (haymowref12_Check_0 (P.getD (iz i) 0) (R.getD (iz i) 0) (S.getD (iz i) 0) (A.getD (iz i) 0) (G.getD (iz i) false) == 0) then (S.getD (iz i) 0) == s else false) || decide (i.toNat < n), !(bif (haymowref12_Check_0 (P.getD (iz i) 0) (R.getD (iz i) 0) (S.getD (iz i) 0) (A.getD (iz i) 0) (G.getD (iz i) false) == 0) then (S.getD (iz i) 0) == s else false) || decide (iz i < A.length)])) else some (.head (hd Try.f16 3) (xT nn n c (.val (.slice none 0 0)) (vi s) (vi k) (vi a) (.ptr 2 1 0 0) (vi (up1 i))) ⟨[x0 P R S A G, x2 s k a o w, (3, none), (4, none)], 9⟩ (conj [decide (0 ≤ i), decide (i.toNat < n), decide (iz i < P.length), decide (iz i < R.length), decide (0 ≤ i), decide (i.toNat < n), decide (iz i < P.length), decide (iz i < R.length), decide (iz i < S.length), decide (iz i < A.length), decide (iz i < G.length), !(haymowref12_Check_0 (P.getD (iz i) 0) (R.getD (iz i) 0) (S.getD (iz i) 0) (A.getD (iz i) 0) (G.getD (iz i) false) == 0) || decide (0 ≤ i), !(haymowref12_Check_0 (P.getD (iz i) 0) (R.getD (iz i) 0) (S.getD (iz i) 0) (A.getD (iz i) 0) (G.getD (iz i) false) == 0) || decide (i.toNat < n), !(haymowref12_Check_0 (P.getD (iz i) 0) (R.getD (iz i) 0) (S.getD (iz i) 0) (A.getD (iz i) 0) (G.getD (iz i) false) == 0) || decide (iz i < S.length), !(bif (haymowref12_Check_0 (P.getD (iz i) 0) (R.getD (iz i) 0) (S.getD (iz i) 0) (A.getD (iz i) 0) (G.getD (iz i) false) == 0) then (S.getD (iz i) 0) == s else false) || decide (0 ≤ i), !(bif (haymowref12_Check_0 (P.getD (iz i) 0) (R.getD (iz i) 0) (S.getD (iz i) 0) (A.getD (iz i) 0) (G.getD (iz i) false) == 0) then (S.getD (iz i) 0) == s else false) || decide (i.toNat < n), !(bif (haymowref12_Check_0 (P.getD (iz i) 0) (R.getD (iz i) 0) (S.getD (iz i) 0) (A.getD (iz i) 0) (G.getD (iz i) false) == 0) then (S.getD (iz i) 0) == s else false) || decide (iz i < A.length)])))
    else bif decide (0 < o) then some (.head (hd Try.f16 2) (xT nn n c (.sl true 5 5 0 1 1 none) (vi s) (vi k) (vi (up1 a)) .unk .unk) ⟨[x0 P R S A G, (3, none), (5, some ⟨true, true, .rows (colsF fs5 [([s, k, a], [o, w])])⟩)], 9⟩ true)
    else some (.head (hd Try.f16 2) (xT nn n c (.val (.slice none 0 0)) (vi s) (vi k) (vi (up1 a)) .unk .unk) ⟨[x0 P R S A G, (3, none), (5, none)], 9⟩ true) := by kernel_rfl
theorem xiN (P R S A : List Int) (G : List Bool) (nn : Bool) (n : Nat) (c : Option Nat) : F_ Try.prog L_census_Sum_plus Try.f16 (xC 9) [] 99 [.sl nn 0 5 0 1 n c] ⟨[x0 P R S A G], 1⟩ = some (.head (hd Try.f16 0) (xT nn n c (.val (.slice none 0 0)) (vi 0) .unk .unk .unk .unk) ⟨[x0 P R S A G, (3, none)], 9⟩ true) := by kernel_rfl
theorem x1Y (P R S A : List Int) (G : List Bool) (nn : Bool) (n : Nat) (c : Option Nat) (l : List KV) (q : Nat) (s : Int) : H_ Try.prog L_census_Sum_plus Try.f16 (xC 9) [3] 99 (hd Try.f16 0) (xT nn n c (.sl true 3 5 0 1 q none) (vi s) .unk .unk .unk .unk) ⟨[x0 P R S A G, (3, some ⟨true, true, .rows (colsF fs5 l)⟩)], 4⟩ =
    bif decide (s < 32) then some (.head (hd Try.f16 1) (xT nn n c (.sl true 3 5 0 1 q none) (vi s) (vi 0) .unk .unk .unk) ⟨[x0 P R S A G, (3, some ⟨true, true, .rows (colsF fs5 l)⟩)], 9⟩ true) else some (.ret (.sl true 3 5 0 1 q none) ⟨[(3, some ⟨true, true, .rows (colsF fs5 l)⟩)], 99⟩ true) := by kernel_rfl
theorem x2Y (P R S A : List Int) (G : List Bool) (nn : Bool) (n : Nat) (c : Option Nat) (l : List KV) (q : Nat) (s k : Int) : H_ Try.prog L_census_Sum_plus Try.f16 (xC 9) [3] 99 (hd Try.f16 1) (xT nn n c (.sl true 3 5 0 1 q none) (vi s) (vi k) .unk .unk .unk) ⟨[x0 P R S A G, (3, some ⟨true, true, .rows (colsF fs5 l)⟩)], 4⟩ =
    bif decide (k < 14) then some (.head (hd Try.f16 2) (xT nn n c (.sl true 3 5 0 1 q none) (vi s) (vi k) (vi 0) .unk .unk) ⟨[x0 P R S A G, (3, some ⟨true, true, .rows (colsF fs5 l)⟩), (5, none)], 9⟩ true) else some (.head (hd Try.f16 0) (xT nn n c (.sl true 3 5 0 1 q none) (vi (up1 s)) .unk .unk .unk .unk) ⟨[x0 P R S A G, (3, some ⟨true, true, .rows (colsF fs5 l)⟩)], 9⟩ true) := by kernel_rfl
theorem x3Y (P R S A : List Int) (G : List Bool) (nn : Bool) (n : Nat) (c : Option Nat) (l : List KV) (q : Nat) (s k a : Int) : H_ Try.prog L_census_Sum_plus Try.f16 (xC 9) [3] 99 (hd Try.f16 2) (xT nn n c (.sl true 3 5 0 1 q none) (vi s) (vi k) (vi a) .unk .unk) ⟨[x0 P R S A G, (3, some ⟨true, true, .rows (colsF fs5 l)⟩)], 4⟩ =
    bif decide (a < 8) then some (.head (hd Try.f16 3) (xT nn n c (.sl true 3 5 0 1 q none) (vi s) (vi k) (vi a) (.ptr 4 1 0 0) (vi 0)) ⟨[x0 P R S A G, (2, none), (3, some ⟨true, true, .rows (colsF fs5 l)⟩), (4, some ⟨true, false, .cells [vi s, vi k, vi a, vi 0, vi 0]⟩)], 9⟩ true) else some (.head (hd Try.f16 1) (xT nn n c (.sl true 3 5 0 1 q none) (vi s) (vi (up1 k)) .unk .unk .unk) ⟨[x0 P R S A G, (3, some ⟨true, true, .rows (colsF fs5 l)⟩)], 9⟩ true) := by kernel_rfl
theorem x4Y (P R S A : List Int) (G : List Bool) (nn : Bool) (n : Nat) (c : Option Nat) (l : List KV) (q : Nat) (s k a o w i : Int) : H_ Try.prog L_census_Sum_plus Try.f16 (xC 9) [3] 99 (hd Try.f16 3) (xT nn n c (.sl true 3 5 0 1 q none) (vi s) (vi k) (vi a) (.ptr 2 1 0 0) (vi i)) ⟨[x0 P R S A G, x2 s k a o w, (3, some ⟨true, true, .rows (colsF fs5 l)⟩)], 4⟩ =
    bif decide (i < Int.ofNat n) then (bif (bif (bif (bif (haymowref12_Check_0 (P.getD (iz i) 0) (R.getD (iz i) 0) (S.getD (iz i) 0) (A.getD (iz i) 0) (G.getD (iz i) false) == 0) then (S.getD (iz i) 0) == s else false) then (A.getD (iz i) 0) == a else false) then haymowref04_Of_0 (haymowref13_Words_0 (P.getD (iz i) 0) (R.getD (iz i) 0)) == k else false) then some (.head (hd Try.f16 3) (xT nn n c (.sl true 3 5 0 1 q none) (vi s) (vi k) (vi a) (.ptr 2 1 0 0) (vi (up1 i))) ⟨[x0 P R S A G, x2 s k a (IntKind.i64.wrap (o + 1)) (IntKind.i64.wrap (w + haymowref13_Words_0 (P.getD (iz i) 0) (R.getD (iz i) 0))), (3, some ⟨true, true, .rows (colsF fs5 l)⟩), (4, none)], 9⟩ (conj [decide (0 ≤ i), decide (i.toNat < n), decide (iz i < P.length), decide (iz i < R.length), decide (0 ≤ i), decide (i.toNat < n), decide (iz i < P.length), decide (iz i < R.length), decide (iz i < S.length), decide (iz i < A.length), decide (iz i < G.length), !(haymowref12_Check_0 (P.getD (iz i) 0) (R.getD (iz i) 0) (S.getD (iz i) 0) (A.getD (iz i) 0) (G.getD (iz i) false) == 0) || decide (0 ≤ i), !(haymowref12_Check_0 (P.getD (iz i) 0) (R.getD (iz i) 0) (S.getD (iz i) 0) (A.getD (iz i) 0) (G.getD (iz i) false) == 0) || decide (i.toNat < n), !(haymowref12_Check_0 (P.getD (iz i) 0) (R.getD (iz i) 0) (S.getD (iz i) 0) (A.getD (iz i) 0) (G.getD (iz i) false) == 0) || decide (iz i < S.length), !(bif (haymowref12_Check_0 (P.getD (iz i) 0) (R.getD (iz i) 0) (S.getD (iz i) 0) (A.getD (iz i) 0) (G.getD (iz i) false) == 0) then (S.getD (iz i) 0) == s else false) || decide (0 ≤ i), !(bif (haymowref12_Check_0 (P.getD (iz i) 0) (R.getD (iz i) 0) (S.getD (iz i) 0) (A.getD (iz i) 0) (G.getD (iz i) false) == 0) then (S.getD (iz i) 0) == s else false) || decide (i.toNat < n), !(bif (haymowref12_Check_0 (P.getD (iz i) 0) (R.getD (iz i) 0) (S.getD (iz i) 0) (A.getD (iz i) 0) (G.getD (iz i) false) == 0) then (S.getD (iz i) 0) == s else false) || decide (iz i < A.length)])) else some (.head (hd Try.f16 3) (xT nn n c (.sl true 3 5 0 1 q none) (vi s) (vi k) (vi a) (.ptr 2 1 0 0) (vi (up1 i))) ⟨[x0 P R S A G, x2 s k a o w, (3, some ⟨true, true, .rows (colsF fs5 l)⟩), (4, none)], 9⟩ (conj [decide (0 ≤ i), decide (i.toNat < n), decide (iz i < P.length), decide (iz i < R.length), decide (0 ≤ i), decide (i.toNat < n), decide (iz i < P.length), decide (iz i < R.length), decide (iz i < S.length), decide (iz i < A.length), decide (iz i < G.length), !(haymowref12_Check_0 (P.getD (iz i) 0) (R.getD (iz i) 0) (S.getD (iz i) 0) (A.getD (iz i) 0) (G.getD (iz i) false) == 0) || decide (0 ≤ i), !(haymowref12_Check_0 (P.getD (iz i) 0) (R.getD (iz i) 0) (S.getD (iz i) 0) (A.getD (iz i) 0) (G.getD (iz i) false) == 0) || decide (i.toNat < n), !(haymowref12_Check_0 (P.getD (iz i) 0) (R.getD (iz i) 0) (S.getD (iz i) 0) (A.getD (iz i) 0) (G.getD (iz i) false) == 0) || decide (iz i < S.length), !(bif (haymowref12_Check_0 (P.getD (iz i) 0) (R.getD (iz i) 0) (S.getD (iz i) 0) (A.getD (iz i) 0) (G.getD (iz i) false) == 0) then (S.getD (iz i) 0) == s else false) || decide (0 ≤ i), !(bif (haymowref12_Check_0 (P.getD (iz i) 0) (R.getD (iz i) 0) (S.getD (iz i) 0) (A.getD (iz i) 0) (G.getD (iz i) false) == 0) then (S.getD (iz i) 0) == s else false) || decide (i.toNat < n), !(bif (haymowref12_Check_0 (P.getD (iz i) 0) (R.getD (iz i) 0) (S.getD (iz i) 0) (A.getD (iz i) 0) (G.getD (iz i) false) == 0) then (S.getD (iz i) 0) == s else false) || decide (iz i < A.length)])))
    else bif decide (0 < o) then some (.head (hd Try.f16 2) (xT nn n c (.sl true 5 5 0 1 (q + 1) none) (vi s) (vi k) (vi (up1 a)) .unk .unk) ⟨[x0 P R S A G, (3, none), (5, some ⟨true, true, .rows [.ints .i64 (List.take q (l.map kA) ++ [s]), .ints .i64 (List.take q (l.map kB) ++ [k]), .ints .i64 (List.take q (l.map kC) ++ [a]), .ints .i64 (List.take q (l.map kD) ++ [o]), .ints .i64 (List.take q (l.map kE) ++ [w])]⟩)], 9⟩ (conj [decide (0 < q), decide ((q + 1) * 40 ≤ 140737488355328), decide (q ≤ (l.map kA).length), decide (q ≤ (l.map kB).length), decide (q ≤ (l.map kC).length), decide (q ≤ (l.map kD).length), decide (q ≤ (l.map kE).length)]))
    else some (.head (hd Try.f16 2) (xT nn n c (.sl true 3 5 0 1 q none) (vi s) (vi k) (vi (up1 a)) .unk .unk) ⟨[x0 P R S A G, (3, some ⟨true, true, .rows (colsF fs5 l)⟩), (5, none)], 9⟩ true) := by kernel_rfl
theorem g1 (P R S A : List Int) (G : List Bool) (nn : Bool) (n : Nat) (c : Option Nat) (s : Nat) (l : List KV) (hs : s < 32) : Goes Try.prog 1 ⟨hd Try.f16 0, xT nn n c (xV l) (vi (s : Int)) .unk .unk .unk .unk, ⟨[x0 P R S A G] ++ xB l, 4⟩⟩ ⟨hd Try.f16 1, xT nn n c (xV l) (vi (s : Int)) (vi 0) .unk .unk .unk, ⟨[x0 P R S A G] ++ xB l, 4⟩⟩ := by
  match l with
  | [] =>
    have h := x1N P R S A G nn n c (s : Int)
    rw [decide_eq_true (show (s : Int) < 32 by omega), cond_true] at h
    exact (H_head (f := Try.f16) (cuts := xC 9) (ns := []) (top := 99) hE_census_Sum_plus mixedP rfl h).trans (Goes.ren (P := Try.prog) (B := 1) (σ := [(0, 0)]) (nx := 4) rfl)
  | e :: l =>
    have h := x1Y P R S A G nn n c (e :: l) (e :: l).length (s : Int)
    rw [decide_eq_true (show (s : Int) < 32 by omega), cond_true] at h
    exact (H_head (f := Try.f16) (cuts := xC 9) (ns := [3]) (top := 99) hE_census_Sum_plus mixedP rfl h).trans (Goes.ren (P := Try.prog) (B := 1) (σ := [(0, 0), (3, 3)]) (nx := 4) rfl)
theorem g2 (P R S A : List Int) (G : List Bool) (nn : Bool) (n : Nat) (c : Option Nat) (s k : Nat) (l : List KV) (hs : k < 14) : Goes Try.prog 1 ⟨hd Try.f16 1, xT nn n c (xV l) (vi (s : Int)) (vi (k : Int)) .unk .unk .unk, ⟨[x0 P R S A G] ++ xB l, 4⟩⟩ ⟨hd Try.f16 2, xT nn n c (xV l) (vi (s : Int)) (vi (k : Int)) (vi 0) .unk .unk, ⟨[x0 P R S A G] ++ xB l, 4⟩⟩ := by
  match l with
  | [] =>
    have h := x2N P R S A G nn n c (s : Int) (k : Int)
    rw [decide_eq_true (show (k : Int) < 14 by omega), cond_true] at h
    exact (H_head (f := Try.f16) (cuts := xC 9) (ns := []) (top := 99) hE_census_Sum_plus mixedP rfl h).trans (Goes.ren (P := Try.prog) (B := 1) (σ := [(0, 0)]) (nx := 4) rfl)
  | e :: l =>
    have h := x2Y P R S A G nn n c (e :: l) (e :: l).length (s : Int) (k : Int)
    rw [decide_eq_true (show (k : Int) < 14 by omega), cond_true] at h
    exact (H_head (f := Try.f16) (cuts := xC 9) (ns := [3]) (top := 99) hE_census_Sum_plus mixedP rfl h).trans (Goes.ren (P := Try.prog) (B := 1) (σ := [(0, 0), (3, 3)]) (nx := 4) rfl)
theorem g2e (P R S A : List Int) (G : List Bool) (nn : Bool) (n : Nat) (c : Option Nat) (s : Nat) (l : List KV) (hs : s < 32) : Goes Try.prog 1 ⟨hd Try.f16 1, xT nn n c (xV l) (vi (s : Int)) (vi ((14 : Nat) : Int)) .unk .unk .unk, ⟨[x0 P R S A G] ++ xB l, 4⟩⟩ ⟨hd Try.f16 0, xT nn n c (xV l) (vi ((s + 1 : Nat) : Int)) .unk .unk .unk .unk, ⟨[x0 P R S A G] ++ xB l, 4⟩⟩ := by
  match l with
  | [] =>
    have h := x2N P R S A G nn n c (s : Int) ((14 : Nat) : Int)
    rw [decide_eq_false (show ¬ ((14 : Nat) : Int) < 14 by omega), cond_false, up1_nat (by omega)] at h
    exact (H_head (f := Try.f16) (cuts := xC 9) (ns := []) (top := 99) hE_census_Sum_plus mixedP rfl h).trans (Goes.ren (P := Try.prog) (B := 1) (σ := [(0, 0)]) (nx := 4) rfl)
  | e :: l =>
    have h := x2Y P R S A G nn n c (e :: l) (e :: l).length (s : Int) ((14 : Nat) : Int)
    rw [decide_eq_false (show ¬ ((14 : Nat) : Int) < 14 by omega), cond_false, up1_nat (by omega)] at h
    exact (H_head (f := Try.f16) (cuts := xC 9) (ns := [3]) (top := 99) hE_census_Sum_plus mixedP rfl h).trans (Goes.ren (P := Try.prog) (B := 1) (σ := [(0, 0), (3, 3)]) (nx := 4) rfl)
theorem g3 (P R S A : List Int) (G : List Bool) (nn : Bool) (n : Nat) (c : Option Nat) (s k a : Nat) (l : List KV) (hs : a < 8) : Goes Try.prog 1 ⟨hd Try.f16 2, xT nn n c (xV l) (vi (s : Int)) (vi (k : Int)) (vi (a : Int)) .unk .unk, ⟨[x0 P R S A G] ++ xB l, 4⟩⟩ ⟨hd Try.f16 3, xT nn n c (xV l) (vi (s : Int)) (vi (k : Int)) (vi (a : Int)) (.ptr 2 1 0 0) (vi 0), ⟨[x0 P R S A G, x2 (s : Int) (k : Int) (a : Int) 0 0] ++ xB l, 4⟩⟩ := by
  match l with
  | [] =>
    have h := x3N P R S A G nn n c (s : Int) (k : Int) (a : Int)
    rw [decide_eq_true (show (a : Int) < 8 by omega), cond_true] at h
    exact (H_head (f := Try.f16) (cuts := xC 9) (ns := []) (top := 99) hE_census_Sum_plus mixedP rfl h).trans (Goes.ren (P := Try.prog) (B := 1) (σ := [(0, 0), (2, 4)]) (nx := 4) rfl)
  | e :: l =>
    have h := x3Y P R S A G nn n c (e :: l) (e :: l).length (s : Int) (k : Int) (a : Int)
    rw [decide_eq_true (show (a : Int) < 8 by omega), cond_true] at h
    exact (H_head (f := Try.f16) (cuts := xC 9) (ns := [3]) (top := 99) hE_census_Sum_plus mixedP rfl h).trans (Goes.ren (P := Try.prog) (B := 1) (σ := [(0, 0), (2, 4), (3, 3)]) (nx := 4) rfl)
theorem g3e (P R S A : List Int) (G : List Bool) (nn : Bool) (n : Nat) (c : Option Nat) (s k : Nat) (l : List KV) (hs : k < 14) : Goes Try.prog 1 ⟨hd Try.f16 2, xT nn n c (xV l) (vi (s : Int)) (vi (k : Int)) (vi ((8 : Nat) : Int)) .unk .unk, ⟨[x0 P R S A G] ++ xB l, 4⟩⟩ ⟨hd Try.f16 1, xT nn n c (xV l) (vi (s : Int)) (vi ((k + 1 : Nat) : Int)) .unk .unk .unk, ⟨[x0 P R S A G] ++ xB l, 4⟩⟩ := by
  match l with
  | [] =>
    have h := x3N P R S A G nn n c (s : Int) (k : Int) ((8 : Nat) : Int)
    rw [decide_eq_false (show ¬ ((8 : Nat) : Int) < 8 by omega), cond_false, up1_nat (by omega)] at h
    exact (H_head (f := Try.f16) (cuts := xC 9) (ns := []) (top := 99) hE_census_Sum_plus mixedP rfl h).trans (Goes.ren (P := Try.prog) (B := 1) (σ := [(0, 0)]) (nx := 4) rfl)
  | e :: l =>
    have h := x3Y P R S A G nn n c (e :: l) (e :: l).length (s : Int) (k : Int) ((8 : Nat) : Int)
    rw [decide_eq_false (show ¬ ((8 : Nat) : Int) < 8 by omega), cond_false, up1_nat (by omega)] at h
    exact (H_head (f := Try.f16) (cuts := xC 9) (ns := [3]) (top := 99) hE_census_Sum_plus mixedP rfl h).trans (Goes.ren (P := Try.prog) (B := 1) (σ := [(0, 0), (3, 3)]) (nx := 4) rfl)
/-- What the document asks of a header. -/
theorem ask_gen (p r x y : Int) (g : Bool) (s k a : Int) : (bif (bif (bif (haymowref12_Check_0 p r x y g == 0) then x == s else false) then y == a else false) then haymowref04_Of_0 (haymowref13_Words_0 p r) == k else false) = isK [s, k, a] (p, r, x, y) := by
  rw [ref_ok]
  unfold isK okHd keyH
  dsimp only
  by_cases h : OkH p r x y
  · rw [ref_words h, decide_eq_true h]
    show (bif (bif (bif true then x == s else false) then y == a else false) then cls p r == k else false) = _
    generalize cls p r = q
    simp only [cond_true, Bool.true_and, List.cons.injEq, and_true]
    by_cases h1 : x = s
    · by_cases h2 : y = a
      · by_cases h3 : q = k <;> simp [h1, h2, h3]
      · simp [h1, h2]
    · simp [h1]
  · rw [decide_eq_false h]
    simp
theorem ask_eq (P R S A : List Int) (G : List Bool) (i : Nat) (s k a : Int) : (bif (bif (bif (haymowref12_Check_0 (P.getD i 0) (R.getD i 0) (S.getD i 0) (A.getD i 0) (G.getD i false) == 0) then S.getD i 0 == s else false) then A.getD i 0 == a else false) then haymowref04_Of_0 (haymowref13_Words_0 (P.getD i 0) (R.getD i 0)) == k else false) = isK [s, k, a] (hdAt P R S A i) := ask_gen _ _ _ _ _ _ _ _
theorem ask_bounds {P R S A : List Int} {i : Nat} {k : List Int} (h : isK k (hdAt P R S A i) = true) : (0 ≤ P.getD i 0 ∧ P.getD i 0 ≤ 4095) ∧ 0 ≤ R.getD i 0 ∧ R.getD i 0 ≤ 4095 := by
  have := (isK_iff.1 h).1
  exact ⟨this.1, this.2.1⟩
theorem ask_words {P R S A : List Int} {i : Nat} {k : List Int} (h : isK k (hdAt P R S A i) = true) : haymowref13_Words_0 (P.getD i 0) (R.getD i 0) = 1 + P.getD i 0 + R.getD i 0 := ref_words (isK_iff.1 h).1
theorem g4y (P R S A : List Int) (G : List Bool) (nn : Bool) (n : Nat) (c : Option Nat) (s k a co i : Nat) (wv : Int) (l : List KV) (hi : i < n) (hn : n ≤ 4096) (hP : n ≤ P.length) (hR : n ≤ R.length) (hS : n ≤ S.length) (hA : n ≤ A.length) (hG : n ≤ G.length) (hq : isK [(s : Int), (k : Int), (a : Int)] (hdAt P R S A i) = true) (hc : co ≤ 4096) (hw : 0 ≤ wv ∧ wv ≤ 8191 * 4096) : Goes Try.prog 1 ⟨hd Try.f16 3, xT nn n c (xV l) (vi (s : Int)) (vi (k : Int)) (vi (a : Int)) (.ptr 2 1 0 0) (vi (i : Int)), ⟨[x0 P R S A G, x2 (s : Int) (k : Int) (a : Int) (co : Int) wv] ++ xB l, 4⟩⟩ ⟨hd Try.f16 3, xT nn n c (xV l) (vi (s : Int)) (vi (k : Int)) (vi (a : Int)) (.ptr 2 1 0 0) (vi ((i + 1 : Nat) : Int)), ⟨[x0 P R S A G, x2 (s : Int) (k : Int) (a : Int) ((co + 1 : Nat) : Int) (wv + (1 + P.getD i 0 + R.getD i 0))] ++ xB l, 4⟩⟩ := by
  match l with
  | [] =>
    have h := x4N P R S A G nn n c (s : Int) (k : Int) (a : Int) (co : Int) wv (i : Int)
    rw [decide_eq_true (show (i : Int) < Int.ofNat n by show (i : Int) < (n : Int); omega), cond_true, iz_nat, Int.toNat_natCast, decide_eq_true (show 0 ≤ (i : Int) by omega), decide_eq_true (show i < n by omega), decide_eq_true (show i < P.length by omega), decide_eq_true (show i < R.length by omega), decide_eq_true (show i < S.length by omega), decide_eq_true (show i < A.length by omega), decide_eq_true (show i < G.length by omega), up1_nat (by omega), ask_eq, hq, cond_true, ask_words hq, wr64 ((co : Int) + 1) (by omega) (by omega), wr64 (wv + _) (by have := ask_bounds hq; omega) (by have := ask_bounds hq; omega), Bool.or_true, Bool.or_true] at h
    exact (H_head (f := Try.f16) (cuts := xC 9) (ns := []) (top := 99) hE_census_Sum_plus mixedP rfl h).trans (Goes.ren (P := Try.prog) (B := 1) (σ := [(0, 0), (2, 2)]) (nx := 4) rfl)
  | e :: l =>
    have h := x4Y P R S A G nn n c (e :: l) (e :: l).length (s : Int) (k : Int) (a : Int) (co : Int) wv (i : Int)
    rw [decide_eq_true (show (i : Int) < Int.ofNat n by show (i : Int) < (n : Int); omega), cond_true, iz_nat, Int.toNat_natCast, decide_eq_true (show 0 ≤ (i : Int) by omega), decide_eq_true (show i < n by omega), decide_eq_true (show i < P.length by omega), decide_eq_true (show i < R.length by omega), decide_eq_true (show i < S.length by omega), decide_eq_true (show i < A.length by omega), decide_eq_true (show i < G.length by omega), up1_nat (by omega), ask_eq, hq, cond_true, ask_words hq, wr64 ((co : Int) + 1) (by omega) (by omega), wr64 (wv + _) (by have := ask_bounds hq; omega) (by have := ask_bounds hq; omega), Bool.or_true, Bool.or_true] at h
    exact (H_head (f := Try.f16) (cuts := xC 9) (ns := [3]) (top := 99) hE_census_Sum_plus mixedP rfl h).trans (Goes.ren (P := Try.prog) (B := 1) (σ := [(0, 0), (2, 2), (3, 3)]) (nx := 4) rfl)
theorem g4n (P R S A : List Int) (G : List Bool) (nn : Bool) (n : Nat) (c : Option Nat) (s k a co i : Nat) (wv : Int) (l : List KV) (hi : i < n) (hn : n ≤ 4096) (hP : n ≤ P.length) (hR : n ≤ R.length) (hS : n ≤ S.length) (hA : n ≤ A.length) (hG : n ≤ G.length) (hq : isK [(s : Int), (k : Int), (a : Int)] (hdAt P R S A i) = false) (hc : co ≤ 4096) (hw : 0 ≤ wv ∧ wv ≤ 8191 * 4096) : Goes Try.prog 1 ⟨hd Try.f16 3, xT nn n c (xV l) (vi (s : Int)) (vi (k : Int)) (vi (a : Int)) (.ptr 2 1 0 0) (vi (i : Int)), ⟨[x0 P R S A G, x2 (s : Int) (k : Int) (a : Int) (co : Int) wv] ++ xB l, 4⟩⟩ ⟨hd Try.f16 3, xT nn n c (xV l) (vi (s : Int)) (vi (k : Int)) (vi (a : Int)) (.ptr 2 1 0 0) (vi ((i + 1 : Nat) : Int)), ⟨[x0 P R S A G, x2 (s : Int) (k : Int) (a : Int) (co : Int) wv] ++ xB l, 4⟩⟩ := by
  match l with
  | [] =>
    have h := x4N P R S A G nn n c (s : Int) (k : Int) (a : Int) (co : Int) wv (i : Int)
    rw [decide_eq_true (show (i : Int) < Int.ofNat n by show (i : Int) < (n : Int); omega), cond_true, iz_nat, Int.toNat_natCast, decide_eq_true (show 0 ≤ (i : Int) by omega), decide_eq_true (show i < n by omega), decide_eq_true (show i < P.length by omega), decide_eq_true (show i < R.length by omega), decide_eq_true (show i < S.length by omega), decide_eq_true (show i < A.length by omega), decide_eq_true (show i < G.length by omega), up1_nat (by omega), ask_eq, hq, cond_false, Bool.or_true, Bool.or_true] at h
    exact (H_head (f := Try.f16) (cuts := xC 9) (ns := []) (top := 99) hE_census_Sum_plus mixedP rfl h).trans (Goes.ren (P := Try.prog) (B := 1) (σ := [(0, 0), (2, 2)]) (nx := 4) rfl)
  | e :: l =>
    have h := x4Y P R S A G nn n c (e :: l) (e :: l).length (s : Int) (k : Int) (a : Int) (co : Int) wv (i : Int)
    rw [decide_eq_true (show (i : Int) < Int.ofNat n by show (i : Int) < (n : Int); omega), cond_true, iz_nat, Int.toNat_natCast, decide_eq_true (show 0 ≤ (i : Int) by omega), decide_eq_true (show i < n by omega), decide_eq_true (show i < P.length by omega), decide_eq_true (show i < R.length by omega), decide_eq_true (show i < S.length by omega), decide_eq_true (show i < A.length by omega), decide_eq_true (show i < G.length by omega), up1_nat (by omega), ask_eq, hq, cond_false, Bool.or_true, Bool.or_true] at h
    exact (H_head (f := Try.f16) (cuts := xC 9) (ns := [3]) (top := 99) hE_census_Sum_plus mixedP rfl h).trans (Goes.ren (P := Try.prog) (B := 1) (σ := [(0, 0), (2, 2), (3, 3)]) (nx := 4) rfl)
theorem g4z (P R S A : List Int) (G : List Bool) (nn : Bool) (n : Nat) (c : Option Nat) (s k a : Nat) (wv : Int) (l : List KV) (ha : a < 8) : Goes Try.prog 1 ⟨hd Try.f16 3, xT nn n c (xV l) (vi (s : Int)) (vi (k : Int)) (vi (a : Int)) (.ptr 2 1 0 0) (vi (n : Int)), ⟨[x0 P R S A G, x2 (s : Int) (k : Int) (a : Int) ((0 : Nat) : Int) wv] ++ xB l, 4⟩⟩ ⟨hd Try.f16 2, xT nn n c (xV l) (vi (s : Int)) (vi (k : Int)) (vi ((a + 1 : Nat) : Int)) .unk .unk, ⟨[x0 P R S A G] ++ xB l, 4⟩⟩ := by
  match l with
  | [] =>
    have h := x4N P R S A G nn n c (s : Int) (k : Int) (a : Int) ((0 : Nat) : Int) wv (n : Int)
    rw [decide_eq_false (show ¬ (n : Int) < Int.ofNat n by show ¬ (n : Int) < (n : Int); omega), cond_false, decide_eq_false (show ¬ 0 < ((0 : Nat) : Int) by omega), cond_false, up1_nat (by omega)] at h
    exact (H_head (f := Try.f16) (cuts := xC 9) (ns := []) (top := 99) hE_census_Sum_plus mixedP rfl h).trans (Goes.ren (P := Try.prog) (B := 1) (σ := [(0, 0)]) (nx := 4) rfl)
  | e :: l =>
    have h := x4Y P R S A G nn n c (e :: l) (e :: l).length (s : Int) (k : Int) (a : Int) ((0 : Nat) : Int) wv (n : Int)
    rw [decide_eq_false (show ¬ (n : Int) < Int.ofNat n by show ¬ (n : Int) < (n : Int); omega), cond_false, decide_eq_false (show ¬ 0 < ((0 : Nat) : Int) by omega), cond_false, up1_nat (by omega)] at h
    exact (H_head (f := Try.f16) (cuts := xC 9) (ns := [3]) (top := 99) hE_census_Sum_plus mixedP rfl h).trans (Goes.ren (P := Try.prog) (B := 1) (σ := [(0, 0), (3, 3)]) (nx := 4) rfl)
theorem g4p (P R S A : List Int) (G : List Bool) (nn : Bool) (n : Nat) (c : Option Nat) (s k a co : Nat) (wv : Int) (l : List KV) (ha : a < 8) (hc : 0 < co) (hl : l.length ≤ 4000) : Goes Try.prog 1 ⟨hd Try.f16 3, xT nn n c (xV l) (vi (s : Int)) (vi (k : Int)) (vi (a : Int)) (.ptr 2 1 0 0) (vi (n : Int)), ⟨[x0 P R S A G, x2 (s : Int) (k : Int) (a : Int) (co : Int) wv] ++ xB l, 4⟩⟩ ⟨hd Try.f16 2, xT nn n c (xV (l ++ [([(s : Int), (k : Int), (a : Int)], [(co : Int), wv])])) (vi (s : Int)) (vi (k : Int)) (vi ((a + 1 : Nat) : Int)) .unk .unk, ⟨[x0 P R S A G] ++ xB (l ++ [([(s : Int), (k : Int), (a : Int)], [(co : Int), wv])]), 4⟩⟩ := by
  match l, hl with
  | [], _ =>
    have h := x4N P R S A G nn n c (s : Int) (k : Int) (a : Int) (co : Int) wv (n : Int)
    rw [decide_eq_false (show ¬ (n : Int) < Int.ofNat n by show ¬ (n : Int) < (n : Int); omega), cond_false, decide_eq_true (show 0 < (co : Int) by omega), cond_true, up1_nat (by omega)] at h
    exact (H_head (f := Try.f16) (cuts := xC 9) (ns := []) (top := 99) hE_census_Sum_plus mixedP rfl h).trans (Goes.ren (P := Try.prog) (B := 1) (σ := [(0, 0), (3, 5)]) (nx := 4) rfl)
  | e :: l, hl =>
    have h := x4Y P R S A G nn n c (e :: l) (e :: l).length (s : Int) (k : Int) (a : Int) (co : Int) wv (n : Int)
    have e1 : ∀ f : KV → Int, List.take (e :: l).length ((e :: l).map f) = (e :: l).map f := fun f => List.take_of_length_le (by rw [List.length_map]; omega)
    have hl' : (e :: l).length ≤ 4000 := hl
    rw [decide_eq_false (show ¬ (n : Int) < Int.ofNat n by show ¬ (n : Int) < (n : Int); omega), cond_false, decide_eq_true (show 0 < (co : Int) by omega), cond_true, up1_nat (by omega), decide_eq_true (show 0 < (e :: l).length from Nat.succ_pos _), decide_eq_true (show ((e :: l).length + 1) * 40 ≤ 140737488355328 by omega),
      List.length_map, List.length_map, List.length_map, List.length_map, List.length_map, decide_eq_true (Nat.le_refl (e :: l).length), e1, e1, e1, e1, e1] at h
    have g := (H_head (f := Try.f16) (cuts := xC 9) (ns := [3]) (top := 99) hE_census_Sum_plus mixedP rfl h).trans (Goes.ren (P := Try.prog) (B := 1) (σ := [(0, 0), (3, 5)]) (nx := 4) rfl)
    have e2 : ∀ (f : KV → Int) (x : KV), (e :: l).map f ++ [f x] = (e :: l ++ [x]).map f := fun f x => by rw [List.map_append]; rfl
    have e3 : (e :: l).length + 1 = (e :: l ++ [([(s : Int), (k : Int), (a : Int)], [(co : Int), wv])]).length := by simp
    have q := e2 kA ([(s : Int), (k : Int), (a : Int)], [(co : Int), wv])
    have q1 := e2 kB ([(s : Int), (k : Int), (a : Int)], [(co : Int), wv])
    have q2 := e2 kC ([(s : Int), (k : Int), (a : Int)], [(co : Int), wv])
    have q3 := e2 kD ([(s : Int), (k : Int), (a : Int)], [(co : Int), wv])
    have q4 := e2 kE ([(s : Int), (k : Int), (a : Int)], [(co : Int), wv])
    simp only [kA, kB, kC, kD, kE, List.headD_cons, List.tail_cons] at q q1 q2 q3 q4
    have gg : ∀ (c0 c1 c2 c3 c4 : List Int) (z : Nat), c0 = (e :: l ++ [([(s : Int), (k : Int), (a : Int)], [(co : Int), wv])]).map kA → c1 = (e :: l ++ [([(s : Int), (k : Int), (a : Int)], [(co : Int), wv])]).map kB → c2 = (e :: l ++ [([(s : Int), (k : Int), (a : Int)], [(co : Int), wv])]).map kC → c3 = (e :: l ++ [([(s : Int), (k : Int), (a : Int)], [(co : Int), wv])]).map kD → c4 = (e :: l ++ [([(s : Int), (k : Int), (a : Int)], [(co : Int), wv])]).map kE →
        z = (e :: l ++ [([(s : Int), (k : Int), (a : Int)], [(co : Int), wv])]).length →
        Goes Try.prog 1 ⟨hd Try.f16 3, xT nn n c (xV (e :: l)) (vi (s : Int)) (vi (k : Int)) (vi (a : Int)) (.ptr 2 1 0 0) (vi (n : Int)), ⟨[x0 P R S A G, x2 (s : Int) (k : Int) (a : Int) (co : Int) wv] ++ xB (e :: l), 4⟩⟩ ⟨hd Try.f16 2, xT nn n c (.sl true 3 5 0 1 z none) (vi (s : Int)) (vi (k : Int)) (vi ((a + 1 : Nat) : Int)) .unk .unk, ⟨[x0 P R S A G, (3, some ⟨true, true, .rows [.ints .i64 c0, .ints .i64 c1, .ints .i64 c2, .ints .i64 c3, .ints .i64 c4]⟩)], 4⟩⟩ →
        Goes Try.prog 1 ⟨hd Try.f16 3, xT nn n c (xV (e :: l)) (vi (s : Int)) (vi (k : Int)) (vi (a : Int)) (.ptr 2 1 0 0) (vi (n : Int)), ⟨[x0 P R S A G, x2 (s : Int) (k : Int) (a : Int) (co : Int) wv] ++ xB (e :: l), 4⟩⟩ ⟨hd Try.f16 2, xT nn n c (xV (e :: l ++ [([(s : Int), (k : Int), (a : Int)], [(co : Int), wv])])) (vi (s : Int)) (vi (k : Int)) (vi ((a + 1 : Nat) : Int)) .unk .unk, ⟨[x0 P R S A G] ++ xB (e :: l ++ [([(s : Int), (k : Int), (a : Int)], [(co : Int), wv])]), 4⟩⟩ := fun c0 c1 c2 c3 c4 z h0 h1 h2 h3 h4 hz hg => by subst h0 h1 h2 h3 h4 hz; exact hg
    exact gg _ _ _ _ _ _ q q1 q2 q3 q4 e3 g
def rowV (k : List Int) (c : Nat) (w : Int) : List KV := if c = 0 then [] else [(k, [(c : Int), w])]
theorem cnt_yes {k : List Int} {h : Hd} (hh : isK k h = true) (H : List Hd) : cnt k (h :: H) = 1 + cnt k H ∧ wrd k (h :: H) = 1 + h.1 + h.2.1 + wrd k H := by
  simp [cnt, wrd, hh]
theorem cnt_no {k : List Int} {h : Hd} (hh : isK k h = false) (H : List Hd) : cnt k (h :: H) = cnt k H ∧ wrd k (h :: H) = wrd k H := by
  simp [cnt, wrd, hh]
/-- All headers gone over, for one kind. -/
theorem xl4 (P R S A : List Int) (G : List Bool) (nn : Bool) (n : Nat) (c : Option Nat) (hn : n ≤ 4096) (hP : n ≤ P.length) (hR : n ≤ R.length) (hS : n ≤ S.length) (hA : n ≤ A.length) (hG : n ≤ G.length) (s k a : Nat) (ha : a < 8) (l : List KV) (hl : l.length ≤ 4000) : ∀ (j i co : Nat) (wv : Int), i + j = n → co + j ≤ n → 0 ≤ wv → wv ≤ 8191 * co →
    Goes Try.prog 1 ⟨hd Try.f16 3, xT nn n c (xV l) (vi (s : Int)) (vi (k : Int)) (vi (a : Int)) (.ptr 2 1 0 0) (vi (i : Int)), ⟨[x0 P R S A G, x2 (s : Int) (k : Int) (a : Int) (co : Int) wv] ++ xB l, 4⟩⟩ ⟨hd Try.f16 2, xT nn n c (xV (l ++ rowV [(s : Int), (k : Int), (a : Int)] (co + cnt [(s : Int), (k : Int), (a : Int)] (hdI P R S A i j)) (wv + wrd [(s : Int), (k : Int), (a : Int)] (hdI P R S A i j)))) (vi (s : Int)) (vi (k : Int)) (vi ((a + 1 : Nat) : Int)) .unk .unk, ⟨[x0 P R S A G] ++ xB (l ++ rowV [(s : Int), (k : Int), (a : Int)] (co + cnt [(s : Int), (k : Int), (a : Int)] (hdI P R S A i j)) (wv + wrd [(s : Int), (k : Int), (a : Int)] (hdI P R S A i j))), 4⟩⟩
  | 0, i, co, wv, hi, hc, h0, h1 => by
    have e : n = i := by omega
    subst e
    have e0 : hdI P R S A n 0 = [] := rfl
    rw [e0]
    show Goes Try.prog 1 _ ⟨hd Try.f16 2, xT nn n c (xV (l ++ rowV [(s : Int), (k : Int), (a : Int)] (co + 0) (wv + 0))) (vi (s : Int)) (vi (k : Int)) (vi ((a + 1 : Nat) : Int)) .unk .unk, ⟨[x0 P R S A G] ++ xB (l ++ rowV [(s : Int), (k : Int), (a : Int)] (co + 0) (wv + 0)), 4⟩⟩
    by_cases hz : co = 0
    · subst hz
      have ez : ∀ w : Int, rowV [(s : Int), (k : Int), (a : Int)] 0 w = [] := fun w => rfl
      rw [Int.add_zero, Nat.add_zero, ez, List.append_nil]
      exact g4z P R S A G nn n c s k a wv l ha
    · have ez : rowV [(s : Int), (k : Int), (a : Int)] co wv = [([(s : Int), (k : Int), (a : Int)], [(co : Int), wv])] := if_neg hz
      rw [Int.add_zero, Nat.add_zero, ez]
      exact g4p P R S A G nn n c s k a co wv l ha (by omega) hl
  | j + 1, i, co, wv, hi, hc, h0, h1 => by
    rw [hdI_succ]
    cases hq : isK [(s : Int), (k : Int), (a : Int)] (hdAt P R S A i) with
    | true =>
      have hk := ask_bounds hq
      have g := (g4y P R S A G nn n c s k a co i wv l (by omega) hn hP hR hS hA hG hq (by omega) ⟨h0, by omega⟩).trans (xl4 P R S A G nn n c hn hP hR hS hA hG s k a ha l hl j (i + 1) (co + 1) (wv + (1 + P.getD i 0 + R.getD i 0)) (by omega) (by omega) (by omega) (by omega))
      obtain ⟨y1, y2⟩ := cnt_yes hq (hdI P R S A (i + 1) j)
      rw [y1, y2]
      have e1 : co + 1 + cnt [(s : Int), (k : Int), (a : Int)] (hdI P R S A (i + 1) j) = co + (1 + cnt [(s : Int), (k : Int), (a : Int)] (hdI P R S A (i + 1) j)) := by omega
      have e2 : wv + (1 + P.getD i 0 + R.getD i 0) + wrd [(s : Int), (k : Int), (a : Int)] (hdI P R S A (i + 1) j) = wv + (1 + P.getD i 0 + R.getD i 0 + wrd [(s : Int), (k : Int), (a : Int)] (hdI P R S A (i + 1) j)) := by omega
      rw [e1, e2] at g
      exact g
    | false =>
      have g := (g4n P R S A G nn n c s k a co i wv l (by omega) hn hP hR hS hA hG hq (by omega) ⟨h0, by omega⟩).trans (xl4 P R S A G nn n c hn hP hR hS hA hG s k a ha l hl j (i + 1) co wv (by omega) (by omega) h0 h1)
      obtain ⟨y1, y2⟩ := cnt_no hq (hdI P R S A (i + 1) j)
      rw [y1, y2]
      exact g
theorem rowK_len (H : List Hd) (k : List Int) : (rowK H k).length ≤ 1 := by
  unfold rowK
  split <;> simp
theorem rfA_succ (H : List Hd) (s c : Int) (i j : Nat) : rfA H s c i (j + 1) = rowK H [s, c, (i : Int)] ++ rfA H s c (i + 1) j := by simp [rfA, List.range'_succ]
theorem rfC_succ (H : List Hd) (s : Int) (i j : Nat) : rfC H s i (j + 1) = rfA H s (i : Int) 0 8 ++ rfC H s (i + 1) j := by simp [rfC, List.range'_succ]
theorem rfS_succ (H : List Hd) (i j : Nat) : rfS H i (j + 1) = rfC H (i : Int) 0 14 ++ rfS H (i + 1) j := by simp [rfS, List.range'_succ]
theorem rfA_len (H : List Hd) (s c : Int) : ∀ (j i : Nat), (rfA H s c i j).length ≤ j
  | 0, _ => Nat.le_refl _
  | j + 1, i => by
    rw [rfA_succ, List.length_append]
    have := rowK_len H [s, c, (i : Int)]
    have := rfA_len H s c j (i + 1)
    omega
theorem rfC_len (H : List Hd) (s : Int) : ∀ (j i : Nat), (rfC H s i j).length ≤ 8 * j
  | 0, _ => Nat.le_refl _
  | j + 1, i => by
    rw [rfC_succ, List.length_append]
    have := rfA_len H s (i : Int) 8 0
    have := rfC_len H s j (i + 1)
    omega
theorem rfS_len (H : List Hd) : ∀ (j i : Nat), (rfS H i j).length ≤ 112 * j
  | 0, _ => Nat.le_refl _
  | j + 1, i => by
    rw [rfS_succ, List.length_append]
    have := rfC_len H (i : Int) 14 0
    have := rfS_len H j (i + 1)
    omega
theorem xl3 (P R S A : List Int) (G : List Bool) (nn : Bool) (n : Nat) (c : Option Nat) (hn : n ≤ 4096) (hP : n ≤ P.length) (hR : n ≤ R.length) (hS : n ≤ S.length) (hA : n ≤ A.length) (hG : n ≤ G.length) (s k : Nat) (hk : k < 14) : ∀ (j a : Nat) (l : List KV), a + j = 8 → l.length + j ≤ 4000 →
    Goes Try.prog 1 ⟨hd Try.f16 2, xT nn n c (xV l) (vi (s : Int)) (vi (k : Int)) (vi (a : Int)) .unk .unk, ⟨[x0 P R S A G] ++ xB l, 4⟩⟩ ⟨hd Try.f16 1, xT nn n c (xV (l ++ rfA (hdI P R S A 0 n) (s : Int) (k : Int) a j)) (vi (s : Int)) (vi ((k + 1 : Nat) : Int)) .unk .unk .unk, ⟨[x0 P R S A G] ++ xB (l ++ rfA (hdI P R S A 0 n) (s : Int) (k : Int) a j), 4⟩⟩
  | 0, a, l, hi, hl => by
    have e : a = 8 := by omega
    subst e
    have e0 : rfA (hdI P R S A 0 n) (s : Int) (k : Int) 8 0 = [] := rfl
    rw [e0, List.append_nil]
    exact g3e P R S A G nn n c s k l hk
  | j + 1, a, l, hi, hl => by
    have g := (g3 P R S A G nn n c s k a l (by omega)).trans (xl4 P R S A G nn n c hn hP hR hS hA hG s k a (by omega) l (by omega) n 0 0 0 (by omega) (by omega) (by omega) (by omega))
    rw [rfA_succ, ← List.append_assoc]
    have hr := rowK_len (hdI P R S A 0 n) [(s : Int), (k : Int), (a : Int)]
    have g2 := xl3 P R S A G nn n c hn hP hR hS hA hG s k hk j (a + 1) (l ++ rowK (hdI P R S A 0 n) [(s : Int), (k : Int), (a : Int)]) (by omega) (by rw [List.length_append]; omega)
    refine Goes.trans ?_ g2
    simp only [Nat.zero_add, Int.zero_add] at g
    exact g
theorem xl2 (P R S A : List Int) (G : List Bool) (nn : Bool) (n : Nat) (c : Option Nat) (hn : n ≤ 4096) (hP : n ≤ P.length) (hR : n ≤ R.length) (hS : n ≤ S.length) (hA : n ≤ A.length) (hG : n ≤ G.length) (s : Nat) (hs : s < 32) : ∀ (j k : Nat) (l : List KV), k + j = 14 → l.length + 8 * j ≤ 4000 →
    Goes Try.prog 1 ⟨hd Try.f16 1, xT nn n c (xV l) (vi (s : Int)) (vi (k : Int)) .unk .unk .unk, ⟨[x0 P R S A G] ++ xB l, 4⟩⟩ ⟨hd Try.f16 0, xT nn n c (xV (l ++ rfC (hdI P R S A 0 n) (s : Int) k j)) (vi ((s + 1 : Nat) : Int)) .unk .unk .unk .unk, ⟨[x0 P R S A G] ++ xB (l ++ rfC (hdI P R S A 0 n) (s : Int) k j), 4⟩⟩
  | 0, k, l, hi, hl => by
    have e : k = 14 := by omega
    subst e
    have e0 : rfC (hdI P R S A 0 n) (s : Int) 14 0 = [] := rfl
    rw [e0, List.append_nil]
    exact g2e P R S A G nn n c s l hs
  | j + 1, k, l, hi, hl => by
    have g := (g2 P R S A G nn n c s k l (by omega)).trans (xl3 P R S A G nn n c hn hP hR hS hA hG s k (by omega) 8 0 l (by omega) (by omega))
    rw [rfC_succ, ← List.append_assoc]
    have hr := rfA_len (hdI P R S A 0 n) (s : Int) (k : Int) 8 0
    exact g.trans (xl2 P R S A G nn n c hn hP hR hS hA hG s hs j (k + 1) (l ++ rfA (hdI P R S A 0 n) (s : Int) (k : Int) 0 8) (by omega) (by rw [List.length_append]; omega))
theorem xl1 (P R S A : List Int) (G : List Bool) (nn : Bool) (n : Nat) (c : Option Nat) (hn : n ≤ 4096) (hP : n ≤ P.length) (hR : n ≤ R.length) (hS : n ≤ S.length) (hA : n ≤ A.length) (hG : n ≤ G.length) : ∀ (j s : Nat) (l : List KV), s + j = 32 → l.length + 112 * j ≤ 4000 →
    Gives_ Try.prog Try.f16 1 ⟨hd Try.f16 0, xT nn n c (xV l) (vi (s : Int)) .unk .unk .unk .unk, ⟨[x0 P R S A G] ++ xB l, 4⟩⟩ (xV (l ++ rfS (hdI P R S A 0 n) s j)) ⟨xB (l ++ rfS (hdI P R S A 0 n) s j), 99⟩
  | 0, s, l, hi, hl => by
    have e : s = 32 := by omega
    subst e
    have e0 : rfS (hdI P R S A 0 n) 32 0 = [] := rfl
    rw [e0, List.append_nil]
    match l with
    | [] =>
      have h := x1N P R S A G nn n c ((32 : Nat) : Int)
      rw [decide_eq_false (show ¬ ((32 : Nat) : Int) < 32 by omega), cond_false] at h
      exact H_ret (f := Try.f16) (cuts := xC 9) (ns := []) (top := 99) hE_census_Sum_plus mixedP rfl h
    | e :: l =>
      have h := x1Y P R S A G nn n c (e :: l) (e :: l).length ((32 : Nat) : Int)
      rw [decide_eq_false (show ¬ ((32 : Nat) : Int) < 32 by omega), cond_false] at h
      exact H_ret (f := Try.f16) (cuts := xC 9) (ns := [3]) (top := 99) hE_census_Sum_plus mixedP rfl h
  | j + 1, s, l, hi, hl => by
    have g := (g1 P R S A G nn n c s l (by omega)).trans (xl2 P R S A G nn n c hn hP hR hS hA hG s (by omega) 14 0 l (by omega) (by omega))
    rw [rfS_succ, ← List.append_assoc]
    have hr := rfC_len (hdI P R S A 0 n) (s : Int) 14 0
    exact g.gives (xl1 P R S A G nn n c hn hP hR hS hA hG j (s + 1) (l ++ rfC (hdI P R S A 0 n) (s : Int) 0 14) (by omega) (by rw [List.length_append]; omega))
theorem x_all (P R S A : List Int) (G : List Bool) (nn : Bool) (n : Nat) (c : Option Nat) (hn : n ≤ 4096) (hP : n ≤ P.length) (hR : n ≤ R.length) (hS : n ≤ S.length) (hA : n ≤ A.length) (hG : n ≤ G.length) : Gives_ Try.prog Try.f16 1 (enterA Try.f16 (bodyOf Try.f16) [.sl nn 0 5 0 1 n c] ⟨[x0 P R S A G], 1⟩) (xV (RF (hdI P R S A 0 n))) ⟨xB (RF (hdI P R S A 0 n)), 99⟩ :=
  Goes.gives ((F_head (f := Try.f16) (c := bodyOf Try.f16) (m := ⟨[x0 P R S A G], 1⟩) (cuts := xC 9) (ns := []) (top := 99) hE_census_Sum_plus mixedP rfl rfl (xiN P R S A G nn n c)).trans (Goes.ren (P := Try.prog) (B := 1) (σ := [(0, 0)]) (nx := 4) rfl)) (xl1 P R S A G nn n c hn hP hR hS hA hG 32 0 [] (by omega) (by simp))
def e_rrows : Spec := fun m args => match args with
  | [.sl _ l 5 0 1 n _] => match look m.bl l with
    | some ⟨_, _, .rows [.ints .i64 P, .ints .i64 R, .ints .i64 S, .ints .i64 A, .bools G]⟩ => some (.sl false m.nx 5 0 1 (RF (hdI P R S A 0 n)).length none, some ⟨(m.nx, some ⟨false, false, .rows (colsF fs5 (RF (hdI P R S A 0 n)))⟩) :: m.bl, m.nx + 1⟩,
        [Nat.ble n 4096, Nat.ble n P.length, Nat.ble n R.length, Nat.ble n S.length, Nat.ble n A.length, Nat.ble n G.length])
    | _ => none
  | _ => none
theorem ok_rrows : SpecOk Try.prog 16 e_rrows := fun m args v mo bs h hb => by
  unfold e_rrows at h
  split at h
  · rename_i nn l n cap
    split at h <;> cases h
    rename_i wr op P R S A G hl
    simp only [List.all_cons, List.all_nil, id, Bool.and_true, Bool.and_eq_true] at hb
    obtain ⟨h2, h3, h4, h5, h6, h7⟩ := hb
    have g := x_all P R S A G false n none (Nat.le_of_ble_eq_true h2) (Nat.le_of_ble_eq_true h3) (Nat.le_of_ble_eq_true h4) (Nat.le_of_ble_eq_true h5) (Nat.le_of_ble_eq_true h6) (Nat.le_of_ble_eq_true h7)
    refine lift_list (m1 := ⟨[x0 P R S A G], 1⟩) (args1 := [.sl false 0 5 0 1 n none]) rfl rfl rfl (sim_sl (br := []) hl rfl rfl rfl) ?_
    generalize RF (hdI P R S A 0 n) = L at g
    match L with
    | [] =>
      refine .inl ⟨rfl, fun r c' a ha => ?_, _, fsound (c := bodyOf Try.f16) (fun xs w => Try.call16 xs w) Try.func16 rfl g⟩
      match c', ha with
      | 0, ha => simp [Cont.at, Col.at, colsF] at ha
      | 1, ha => simp [Cont.at, Col.at, colsF] at ha
      | 2, ha => simp [Cont.at, Col.at, colsF] at ha
      | 3, ha => simp [Cont.at, Col.at, colsF] at ha
      | 4, ha => simp [Cont.at, Col.at, colsF] at ha
      | c' + 5, ha => cases ha
    | e :: L => exact .inr ⟨_, _, _, _, _, _, rfl, says_self rfl, fsound (c := bodyOf Try.f16) (fun xs w => Try.call16 xs w) Try.func16 rfl g⟩
  · cases h
end Go.Proofs.Ytbjealobiblabaa

namespace Go.Proofs.Ytbjealobiblabaa
open Go Go.ChangeShapes Go.WideShapes Go.ChangeAt Go.RowKit Go.Deep
set_option maxRecDepth 100000
def e_hint : Spec := fun _ _ => some (.unk, none, [false])
theorem ok_hint : SpecOk Try.prog 1000004 e_hint := fun m args v mo bs h hb => by
  unfold e_hint at h
  cases h
  simp at hb
def e_ofE (es : List KV) : Spec := fun m args => match args with
  | [.sl _ l 5 0 1 n _] => match look m.bl l with
    | some ⟨_, _, .rows [.ints .i64 P, .ints .i64 R, .ints .i64 S, .ints .i64 A, .bools G]⟩ => some (.ptr (m.nx + 1) 1 0 0, some ⟨(m.nx, some ⟨true, false, .obj (.mpo 3 2 es)⟩) :: (m.nx + 1, some ⟨true, false, .cells [.mp m.nx]⟩) :: m.bl, m.nx + 2⟩,
        [decide (ofF P R S A 0 n [] = es), Nat.blt l m.nx, Nat.ble n 4096, Nat.ble n P.length, Nat.ble n R.length, Nat.ble n S.length, Nat.ble n A.length, Nat.ble n G.length])
    | _ => none
  | _ => none
theorem ok_ofE (es : List KV) : SpecOk Try.prog 11 (e_ofE es) := fun m args v mo bs h hb => by
  unfold e_ofE at h
  split at h
  · rename_i nn l n c
    split at h <;> cases h
    rename_i wr op P R S A G hl
    obtain ⟨h1, hb2⟩ := all_cons hb
    have h1 : ofF P R S A 0 n [] = es := by simpa using h1
    subst h1
    exact ok_of m [.sl nn l 5 0 1 n c] _ _ _ (by simp only [e_of, hl]) hb2
  · cases h
def e_rrowsL (L : List KV) : Spec := fun m args => match args with
  | [.sl _ l 5 0 1 n _] => match look m.bl l with
    | some ⟨_, _, .rows [.ints .i64 P, .ints .i64 R, .ints .i64 S, .ints .i64 A, .bools G]⟩ => some (.sl false m.nx 5 0 1 L.length none, some ⟨(m.nx, some ⟨false, false, .rows (colsF fs5 L)⟩) :: m.bl, m.nx + 1⟩,
        [decide (RF (hdI P R S A 0 n) = L), Nat.ble n 4096, Nat.ble n P.length, Nat.ble n R.length, Nat.ble n S.length, Nat.ble n A.length, Nat.ble n G.length])
    | _ => none
  | _ => none
theorem ok_rrowsL (L : List KV) : SpecOk Try.prog 16 (e_rrowsL L) := fun m args v mo bs h hb => by
  unfold e_rrowsL at h
  split at h
  · rename_i nn l n c
    split at h <;> cases h
    rename_i wr op P R S A G hl
    obtain ⟨h1, hb2⟩ := all_cons hb
    have h1 : RF (hdI P R S A 0 n) = L := by simpa using h1
    subst h1
    exact ok_rrows m [.sl nn l 5 0 1 n c] _ _ _ (by simp only [e_rrows, hl]) hb2
  · cases h
abbrev L_cc (es l : List KV) : List (FuncId × Spec) := (10, e_aw23) :: (11, e_ofE es) :: (16, e_rrowsL l) :: (18, e_rowsL l) :: (17, e_sameL l) :: (14, e_Total) :: (20, e_rtot) :: (12, e_Site) :: (13, e_Class) :: (15, e_Old) :: (21, e_someL l) :: (22, e_at) :: L_haymowlaw23_sum
theorem hE_cc (es l : List KV) : ESound Try.prog (envOf (L_cc es l)) := env_cons ok_aw23 (env_cons (ok_ofE es) (env_cons (ok_rrowsL l) (env_cons (ok_rowsL l) (env_cons (ok_sameL l) (env_cons ok_Total (env_cons ok_rtot (env_cons ok_Site (env_cons ok_Class (env_cons ok_Old (env_cons (ok_someL l) (env_cons ok_at hE_haymowlaw23_sum)))))))))))
abbrev L_ccH (es l : List KV) : List (FuncId × Spec) := (1000004, e_hint) :: L_cc es l
theorem hE_ccH (es l : List KV) : ESound Try.prog (envOf (L_ccH es l)) := env_cons ok_hint (hE_cc es l)
abbrev ccT (nn : Bool) (n : Nat) (c : Option Nat) (N : Nat) (t7 t8 t9 t10 t11 : AV) : List AV := [.sl nn 0 5 0 1 n c, .unk, .unk, .ptr 1 1 0 0, .unk, .ptr 3 1 0 0, .sl false 4 5 0 1 N none, t7, t8, t9, t10, t11] ++ List.replicate 193 .unk
abbrev ccM (P R S A : List Int) (G : List Bool) (x y z : Int) (es l : List KV) (r : List (Nat × Option ABlk)) (nx : Nat) : MS := ⟨[(0, some ⟨false, false, hdC P R S A G⟩), (1, some ⟨true, false, .cells [vi x, vi y, vi z]⟩), (2, some ⟨true, false, .obj (.mpo 3 2 es)⟩), (3, some ⟨true, false, .cells [.mp 2]⟩), (4, some ⟨false, false, .rows (colsF fs5 l)⟩)] ++ r, nx⟩
abbrev ccC (a : Nat) : List Cut := [(2,[0,3,5,6,7,8,9,10,11],[0,1,2,3,4,5,6],a)]
abbrev ccR (x y z a b : Int) : List (Nat × Option ABlk) := [(5, some ⟨true, false, .cells [vi x, vi y, vi z]⟩), (6, some ⟨true, false, .cells [vi a, vi b]⟩)]
abbrev cc0 : List (Nat × Option ABlk) := [(5, none), (6, none)]
theorem cc_big (es l : List KV) (P R S A : List Int) (G : List Bool) (nn : Bool) (n : Nat) (c : Option Nat) (x y z : Int) : FO_ Try.prog (L_cc es l) Try.f4 (ccC 60) [] 200 [2, 1] [.sl nn 0 5 0 1 n c, .agg [vi x, vi y, vi z]] ⟨[(0, some ⟨false, false, hdC P R S A G⟩)], 1⟩ = some (.ret (vb true) ⟨[], 200⟩ (conj [decide (40 < Int.ofNat n)])) := by kernel_rfl
theorem cc_in (es l : List KV) (P R S A : List Int) (G : List Bool) (nn : Bool) (n : Nat) (c : Option Nat) (x y z : Int) : FO_ Try.prog (L_ccH es l) Try.f4 [(2,[0,3,5,6,7],[0,1,2,3,4],60)] [] 200 [2, 0, 2] [.sl nn 0 5 0 1 n c, .agg [vi x, vi y, vi z]] ⟨[(0, some ⟨false, false, hdC P R S A G⟩)], 1⟩ =
    some (.head (hd Try.f4 0) (ccT nn n c l.length (vi 0) .unk .unk .unk .unk) (ccM P R S A G x y z es l [] 60) (conj [!decide (40 < Int.ofNat n), decide (ofF P R S A 0 n [] = es), Nat.ble n 4096, Nat.ble n P.length, Nat.ble n R.length, Nat.ble n S.length, Nat.ble n A.length, Nat.ble n G.length, decide (RF (hdI P R S A 0 n) = l), Nat.ble n 4096, Nat.ble n P.length, Nat.ble n R.length, Nat.ble n S.length, Nat.ble n A.length, Nat.ble n G.length, decide (KD es), Nat.ble es.length 4096, decide (sortK es = l), Nat.ble l.length 4096, decide (l.length = l.length), decide (l.length = l.length), decide (l.map kA = l.map kA), decide (l.map kB = l.map kB), decide (l.map kC = l.map kC), decide (l.map kD = l.map kD), decide (l.map kE = l.map kE), decide (l.map kA = l.map kA), decide (l.map kB = l.map kB), decide (l.map kC = l.map kC), decide (l.map kD = l.map kD), decide (l.map kE = l.map kE), false || decide (KD es), false || Nat.ble es.length 4096, false || Nat.ble l.length 4096, false || Nat.ble l.length (l.map kD).length, false || Nat.ble l.length (l.map kE).length, false || !!(totF (pTotal 0) kD (sortK es) 0 == toC (l.map kD) 0 l.length 0 && (totF (pTotal 0) kE (sortK es) 0 == toC (l.map kE) 0 l.length 0 && true)), false || decide (KD es), false || Nat.ble es.length 4096, Nat.ble l.length 4096, decide (l.length = l.length), decide (l.map kA = l.map kA), decide (l.map kB = l.map kB), decide (l.map kC = l.map kC), decide (l.map kD = l.map kD), decide (l.map kE = l.map kE), false || Nat.ble (l.filter (someP 0 x)).length 4096, false || Nat.ble (l.filter (someP 0 x)).length ((l.filter (someP 0 x)).map kD).length, false || Nat.ble (l.filter (someP 0 x)).length ((l.filter (someP 0 x)).map kE).length, false || !!(totF (pSite x) kD (sortK es) 0 == toC ((l.filter (someP 0 x)).map kD) 0 (l.filter (someP 0 x)).length 0 && (totF (pSite x) kE (sortK es) 0 == toC ((l.filter (someP 0 x)).map kE) 0 (l.filter (someP 0 x)).length 0 && true)), false || decide (KD es), false || Nat.ble es.length 4096, Nat.ble l.length 4096, decide (l.length = l.length), decide (l.map kA = l.map kA), decide (l.map kB = l.map kB), decide (l.map kC = l.map kC), decide (l.map kD = l.map kD), decide (l.map kE = l.map kE), false || Nat.ble (l.filter (someP 1 y)).length 4096, false || Nat.ble (l.filter (someP 1 y)).length ((l.filter (someP 1 y)).map kD).length, false || Nat.ble (l.filter (someP 1 y)).length ((l.filter (someP 1 y)).map kE).length, false || !!(totF (pClass y) kD (sortK es) 0 == toC ((l.filter (someP 1 y)).map kD) 0 (l.filter (someP 1 y)).length 0 && (totF (pClass y) kE (sortK es) 0 == toC ((l.filter (someP 1 y)).map kE) 0 (l.filter (someP 1 y)).length 0 && true)), false || decide (KD es), false || Nat.ble es.length 4096, Nat.ble l.length 4096, decide (l.length = l.length), decide (l.map kA = l.map kA), decide (l.map kB = l.map kB), decide (l.map kC = l.map kC), decide (l.map kD = l.map kD), decide (l.map kE = l.map kE), false || Nat.ble (l.filter (someP 2 z)).length 4096, false || Nat.ble (l.filter (someP 2 z)).length ((l.filter (someP 2 z)).map kD).length, false || Nat.ble (l.filter (someP 2 z)).length ((l.filter (someP 2 z)).map kE).length, false || !!(totF (pOld z) kD (sortK es) 0 == toC ((l.filter (someP 2 z)).map kD) 0 (l.filter (someP 2 z)).length 0 && (totF (pOld z) kE (sortK es) 0 == toC ((l.filter (someP 2 z)).map kE) 0 (l.filter (someP 2 z)).length 0 && true))])) := by kernel_rfl
theorem cc_1 (es l : List KV) (P R S A : List Int) (G : List Bool) (nn : Bool) (n : Nat) (c : Option Nat) (x y z : Int) (i : Int) : HO_ Try.prog (L_ccH es l) Try.f4 (ccC 60) [] 200 [1, 0] (hd Try.f4 0) (ccT nn n c l.length (vi i) .unk .unk .unk .unk) (ccM P R S A G x y z es l [] 5) =
    some (.head (hd Try.f4 0) (ccT nn n c l.length (vi (up1 i)) .unk .unk .unk .unk) (ccM P R S A G x y z es l cc0 60) (conj [decide (i < Int.ofNat l.length), decide (0 ≤ i), decide (i.toNat < l.length), decide (iz i < (l.map kA).length), decide (0 ≤ i), decide (i.toNat < l.length), decide (iz i < (l.map kB).length), decide (0 ≤ i), decide (i.toNat < l.length), decide (iz i < (l.map kC).length), keysN 3 es, decide (0 ≤ i), decide (i.toNat < l.length), decide (iz i < (l.map kD).length), decide (0 ≤ i), decide (i.toNat < l.length), decide (iz i < (l.map kE).length), !!(((lookM es [(l.map kA).getD (iz i) 0, (l.map kB).getD (iz i) 0, (l.map kC).getD (iz i) 0]).getD [0, 0]).headD 0 == (l.map kD).getD (iz i) 0 && (((lookM es [(l.map kA).getD (iz i) 0, (l.map kB).getD (iz i) 0, (l.map kC).getD (iz i) 0]).getD [0, 0]).tail.headD 0 == (l.map kE).getD (iz i) 0 && true))])) := by kernel_rfl
theorem cc_1e (es l : List KV) (P R S A : List Int) (G : List Bool) (nn : Bool) (n : Nat) (c : Option Nat) (x y z : Int) (i : Int) : HO_ Try.prog (L_ccH es l) Try.f4 (ccC 60) [] 200 [0] (hd Try.f4 0) (ccT nn n c l.length (vi i) .unk .unk .unk .unk) (ccM P R S A G x y z es l [] 5) =
    some (.head (hd Try.f4 1) (ccT nn n c l.length (vi i) (vi 0) .unk .unk .unk) (ccM P R S A G x y z es l cc0 60) (conj [!decide (i < Int.ofNat l.length)])) := by kernel_rfl
theorem cc_2 (es l : List KV) (P R S A : List Int) (G : List Bool) (nn : Bool) (n : Nat) (c : Option Nat) (x y z : Int) (i : Int) : HO_ Try.prog (L_cc es l) Try.f4 (ccC 60) [] 200 [1, 0] (hd Try.f4 1) (ccT nn n c l.length .unk (vi i) .unk .unk .unk) (ccM P R S A G x y z es l [] 5) =
    some (.head (hd Try.f4 1) (ccT nn n c l.length .unk (vi (up1 i)) .unk .unk .unk) (ccM P R S A G x y z es l cc0 60) (conj [decide (i < Int.ofNat n), decide (0 ≤ i), decide (i.toNat < n), decide (iz i < P.length), decide (iz i < R.length), decide (iz i < S.length), decide (iz i < A.length), decide (iz i < G.length), !(haymowref12_Check_0 (P.getD (iz i) 0) (R.getD (iz i) 0) (S.getD (iz i) 0) (A.getD (iz i) 0) (G.getD (iz i) false) == 0) || decide (0 ≤ i), !(haymowref12_Check_0 (P.getD (iz i) 0) (R.getD (iz i) 0) (S.getD (iz i) 0) (A.getD (iz i) 0) (G.getD (iz i) false) == 0) || decide (i.toNat < n), !(haymowref12_Check_0 (P.getD (iz i) 0) (R.getD (iz i) 0) (S.getD (iz i) 0) (A.getD (iz i) 0) (G.getD (iz i) false) == 0) || decide (iz i < P.length), !(haymowref12_Check_0 (P.getD (iz i) 0) (R.getD (iz i) 0) (S.getD (iz i) 0) (A.getD (iz i) 0) (G.getD (iz i) false) == 0) || decide (iz i < R.length), !(haymowref12_Check_0 (P.getD (iz i) 0) (R.getD (iz i) 0) (S.getD (iz i) 0) (A.getD (iz i) 0) (G.getD (iz i) false) == 0) || decide (iz i < S.length), !(haymowref12_Check_0 (P.getD (iz i) 0) (R.getD (iz i) 0) (S.getD (iz i) 0) (A.getD (iz i) 0) (G.getD (iz i) false) == 0) || decide (iz i < A.length), !(haymowref12_Check_0 (P.getD (iz i) 0) (R.getD (iz i) 0) (S.getD (iz i) 0) (A.getD (iz i) 0) (G.getD (iz i) false) == 0) || decide (iz i < G.length), !(haymowref12_Check_0 (P.getD (iz i) 0) (R.getD (iz i) 0) (S.getD (iz i) 0) (A.getD (iz i) 0) (G.getD (iz i) false) == 0) || c_census_Of (P.getD (iz i) 0) (R.getD (iz i) 0) (S.getD (iz i) 0) (A.getD (iz i) 0) (G.getD (iz i) false), !(haymowref12_Check_0 (P.getD (iz i) 0) (R.getD (iz i) 0) (S.getD (iz i) 0) (A.getD (iz i) 0) (G.getD (iz i) false) == 0) || decide (0 ≤ i), !(haymowref12_Check_0 (P.getD (iz i) 0) (R.getD (iz i) 0) (S.getD (iz i) 0) (A.getD (iz i) 0) (G.getD (iz i) false) == 0) || decide (i.toNat < n), !(haymowref12_Check_0 (P.getD (iz i) 0) (R.getD (iz i) 0) (S.getD (iz i) 0) (A.getD (iz i) 0) (G.getD (iz i) false) == 0) || decide (iz i < S.length), !(haymowref12_Check_0 (P.getD (iz i) 0) (R.getD (iz i) 0) (S.getD (iz i) 0) (A.getD (iz i) 0) (G.getD (iz i) false) == 0) || decide (0 ≤ i), !(haymowref12_Check_0 (P.getD (iz i) 0) (R.getD (iz i) 0) (S.getD (iz i) 0) (A.getD (iz i) 0) (G.getD (iz i) false) == 0) || decide (i.toNat < n), !(haymowref12_Check_0 (P.getD (iz i) 0) (R.getD (iz i) 0) (S.getD (iz i) 0) (A.getD (iz i) 0) (G.getD (iz i) false) == 0) || decide (iz i < P.length), !(haymowref12_Check_0 (P.getD (iz i) 0) (R.getD (iz i) 0) (S.getD (iz i) 0) (A.getD (iz i) 0) (G.getD (iz i) false) == 0) || decide (iz i < R.length), !(haymowref12_Check_0 (P.getD (iz i) 0) (R.getD (iz i) 0) (S.getD (iz i) 0) (A.getD (iz i) 0) (G.getD (iz i) false) == 0) || decide (0 ≤ i), !(haymowref12_Check_0 (P.getD (iz i) 0) (R.getD (iz i) 0) (S.getD (iz i) 0) (A.getD (iz i) 0) (G.getD (iz i) false) == 0) || decide (i.toNat < n), !(haymowref12_Check_0 (P.getD (iz i) 0) (R.getD (iz i) 0) (S.getD (iz i) 0) (A.getD (iz i) 0) (G.getD (iz i) false) == 0) || decide (iz i < A.length), !(bif (haymowref12_Check_0 (P.getD (iz i) 0) (R.getD (iz i) 0) (S.getD (iz i) 0) (A.getD (iz i) 0) (G.getD (iz i) false) == 0) then !((S.getD (iz i) 0) == (S.getD (iz i) 0) && (census_Of_0 (P.getD (iz i) 0) (R.getD (iz i) 0) (S.getD (iz i) 0) (A.getD (iz i) 0) (G.getD (iz i) false) == haymowref04_Of_0 (haymowref13_Words_0 (P.getD (iz i) 0) (R.getD (iz i) 0)) && ((A.getD (iz i) 0) == (A.getD (iz i) 0) && true))) else false)])) := by kernel_rfl
theorem cc_2e (es l : List KV) (P R S A : List Int) (G : List Bool) (nn : Bool) (n : Nat) (c : Option Nat) (x y z : Int) (i : Int) : HO_ Try.prog (L_cc es l) Try.f4 (ccC 60) [] 200 [0] (hd Try.f4 1) (ccT nn n c l.length .unk (vi i) .unk .unk .unk) (ccM P R S A G x y z es l [] 5) =
    some (.head (hd Try.f4 2) (ccT nn n c l.length .unk (vi i) (.ptr 5 1 0 0) (.ptr 6 1 0 0) (vi 0)) (ccM P R S A G x y z es l (ccR x y z 0 0) 60) (conj [!decide (i < Int.ofNat n)])) := by kernel_rfl
theorem cc_3y (es l : List KV) (P R S A : List Int) (G : List Bool) (nn : Bool) (n : Nat) (c : Option Nat) (x y z : Int) (i a b : Int) : HO_ Try.prog (L_cc es l) Try.f4 (ccC 60) [] 200 [1, 1] (hd Try.f4 2) (ccT nn n c l.length .unk .unk (.ptr 5 1 0 0) (.ptr 6 1 0 0) (vi i)) (ccM P R S A G x y z es l (ccR x y z a b) 7) =
    some (.head (hd Try.f4 2) (ccT nn n c l.length .unk .unk (.ptr 5 1 0 0) (.ptr 6 1 0 0) (vi (up1 i))) (ccM P R S A G x y z es l (ccR x y z ((l.map kD).getD (iz i) 0) ((l.map kE).getD (iz i) 0)) 60) (conj [decide (i < Int.ofNat l.length), decide (0 ≤ i), decide (i.toNat < l.length), decide (iz i < (l.map kA).length), !((l.map kA).getD (iz i) 0 == x) || decide (0 ≤ i), !((l.map kA).getD (iz i) 0 == x) || decide (i.toNat < l.length), !((l.map kA).getD (iz i) 0 == x) || decide (iz i < (l.map kB).length), !((l.map kA).getD (iz i) 0 == x) || true, !((l.map kA).getD (iz i) 0 == x) || true, !(bif ((l.map kA).getD (iz i) 0 == x) then (l.map kB).getD (iz i) 0 == y else false) || decide (0 ≤ i), !(bif ((l.map kA).getD (iz i) 0 == x) then (l.map kB).getD (iz i) 0 == y else false) || decide (i.toNat < l.length), !(bif ((l.map kA).getD (iz i) 0 == x) then (l.map kB).getD (iz i) 0 == y else false) || decide (iz i < (l.map kC).length), !(bif ((l.map kA).getD (iz i) 0 == x) then (l.map kB).getD (iz i) 0 == y else false) || true, !(bif ((l.map kA).getD (iz i) 0 == x) then (l.map kB).getD (iz i) 0 == y else false) || true, (bif (bif ((l.map kA).getD (iz i) 0 == x) then (l.map kB).getD (iz i) 0 == y else false) then (l.map kC).getD (iz i) 0 == z else false), decide (0 ≤ i), decide (i.toNat < l.length), decide (iz i < (l.map kD).length), decide (0 ≤ i), decide (i.toNat < l.length), decide (iz i < (l.map kE).length)])) := by kernel_rfl
theorem cc_3n (es l : List KV) (P R S A : List Int) (G : List Bool) (nn : Bool) (n : Nat) (c : Option Nat) (x y z : Int) (i a b : Int) : HO_ Try.prog (L_cc es l) Try.f4 (ccC 60) [] 200 [1, 0] (hd Try.f4 2) (ccT nn n c l.length .unk .unk (.ptr 5 1 0 0) (.ptr 6 1 0 0) (vi i)) (ccM P R S A G x y z es l (ccR x y z a b) 7) =
    some (.head (hd Try.f4 2) (ccT nn n c l.length .unk .unk (.ptr 5 1 0 0) (.ptr 6 1 0 0) (vi (up1 i))) (ccM P R S A G x y z es l (ccR x y z a b) 60) (conj [decide (i < Int.ofNat l.length), decide (0 ≤ i), decide (i.toNat < l.length), decide (iz i < (l.map kA).length), !((l.map kA).getD (iz i) 0 == x) || decide (0 ≤ i), !((l.map kA).getD (iz i) 0 == x) || decide (i.toNat < l.length), !((l.map kA).getD (iz i) 0 == x) || decide (iz i < (l.map kB).length), !((l.map kA).getD (iz i) 0 == x) || true, !((l.map kA).getD (iz i) 0 == x) || true, !(bif ((l.map kA).getD (iz i) 0 == x) then (l.map kB).getD (iz i) 0 == y else false) || decide (0 ≤ i), !(bif ((l.map kA).getD (iz i) 0 == x) then (l.map kB).getD (iz i) 0 == y else false) || decide (i.toNat < l.length), !(bif ((l.map kA).getD (iz i) 0 == x) then (l.map kB).getD (iz i) 0 == y else false) || decide (iz i < (l.map kC).length), !(bif ((l.map kA).getD (iz i) 0 == x) then (l.map kB).getD (iz i) 0 == y else false) || true, !(bif ((l.map kA).getD (iz i) 0 == x) then (l.map kB).getD (iz i) 0 == y else false) || true, !(bif (bif ((l.map kA).getD (iz i) 0 == x) then (l.map kB).getD (iz i) 0 == y else false) then (l.map kC).getD (iz i) 0 == z else false)])) := by kernel_rfl
theorem cc_3e (es l : List KV) (P R S A : List Int) (G : List Bool) (nn : Bool) (n : Nat) (c : Option Nat) (x y z : Int) (i a b : Int) : HO_ Try.prog (L_ccH es l) Try.f4 (ccC 60) [] 200 [0] (hd Try.f4 2) (ccT nn n c l.length .unk .unk (.ptr 5 1 0 0) (.ptr 6 1 0 0) (vi i)) (ccM P R S A G x y z es l (ccR x y z a b) 7) =
    some (.ret (vb true) ⟨[], 200⟩ (conj [!decide (i < Int.ofNat l.length), keysN 3 es, ((lookM es [x, y, z]).getD [0, 0]).headD 0 == a && (((lookM es [x, y, z]).getD [0, 0]).tail.headD 0 == b && true)])) := by kernel_rfl
theorem Goes.mask {B : Nat} {todo : List Item} {tm : List AV} {m : MS} (live : List Nat) : Goes Try.prog B ⟨todo, tm, m⟩ ⟨todo, maskA live 0 tm, m⟩ := fun b cs ρ a w ht hm hB => ⟨ρ, a, w, Steps.refl _ _, maskA_rels 0 ht, rfl, hm, Moves.refl hB⟩
section
variable {es l : List KV} {P R S A : List Int} {G : List Bool} {n : Nat} {H : List Hd}
theorem look_of {es : List KV} (hk : KD es) {e : KV} (he : e ∈ es) : (lookM es [kA e, kB e, kC e]).getD [0, 0] = e.2 := by
  have h3 := hk.1 e he
  have : [kA e, kB e, kC e] = e.1 := by
    unfold kA kB kC
    match e.1, h3 with
    | [a, b, c], _ => rfl
  rw [this, (mem_look hk.2 e).1 he]
  rfl
theorem cc_final (hk : KD es) (hp : ∀ e, e ∈ l ↔ e ∈ es) (hn : l.length ≤ 4096) (x y z : Int) (nn : Bool) (c : Option Nat) (P R S A : List Int) (G : List Bool) (n : Nat) : ∀ (j i : Nat) (a b : Int), i + j = l.length → ((∀ e ∈ l.drop i, [kA e, kB e, kC e] ≠ [x, y, z]) → a = ((lookM es [x, y, z]).getD [0, 0]).headD 0 ∧ b = ((lookM es [x, y, z]).getD [0, 0]).tail.headD 0) →
    Gives_ Try.prog Try.f4 1 ⟨hd Try.f4 2, ccT nn n c l.length .unk .unk (.ptr 5 1 0 0) (.ptr 6 1 0 0) (vi (i : Int)), ccM P R S A G x y z es l (ccR x y z a b) 7⟩ (vb true) ⟨[], 200⟩
  | 0, i, a, b, hi, hq => by
    obtain ⟨h1, h2⟩ := hq (by rw [List.drop_of_length_le (by omega)]; simp)
    have h := cc_3e es l P R S A G nn n c x y z (i : Int) a b
    rw [← h1, ← h2, beq_self_eq_true, beq_self_eq_true, hk.keys, decide_eq_false (show ¬ (i : Int) < Int.ofNat l.length by show ¬ (i : Int) < (l.length : Int); omega)] at h
    exact HO_ret (hE_ccH es l) mixedP rfl h rfl
  | j + 1, i, a, b, hi, hq => by
    have hlt : i < l.length := by omega
    have hli : (i : Int) < Int.ofNat l.length := by show (i : Int) < (l.length : Int); omega
    have eA : ∀ f : KV → Int, (l.map f).length = l.length := fun f => List.length_map ..
    cases ht : (bif (bif (kA l[i] == x) then kB l[i] == y else false) then kC l[i] == z else false) with
    | true =>
      have e : [kA l[i], kB l[i], kC l[i]] = [x, y, z] := by
        rw [Bool.cond_eq_ite, Bool.cond_eq_ite] at ht
        by_cases h1 : kA l[i] = x
        · by_cases h2 : kB l[i] = y
          · by_cases h3 : kC l[i] = z
            · rw [h1, h2, h3]
            · simp [h1, h2, h3] at ht
          · simp [h1, h2] at ht
        · simp [h1] at ht
      have h := cc_3y es l P R S A G nn n c x y z (i : Int) a b
      rw [eA, eA, eA, eA, eA, mapD kA hlt, mapD kB hlt, mapD kC hlt, mapD kD hlt, mapD kE hlt, ht, iz_nat, Int.toNat_natCast, decide_eq_true hli, decide_eq_true (show 0 ≤ (i : Int) by omega), decide_eq_true hlt, Bool.or_true, Bool.or_true, up1_nat (by omega)] at h
      have g := cc_final hk hp hn x y z nn c P R S A G n j (i + 1) (kD l[i]) (kE l[i]) (by omega) (fun _ => by
        rw [← e, look_of hk ((hp _).1 (List.getElem_mem hlt))]
        exact ⟨rfl, rfl⟩)
      exact Goes.gives ((HO_head (hE_cc es l) mixedP rfl h rfl).trans (Goes.ren (P := Try.prog) (B := 1) (σ := [(0, 0), (1, 1), (2, 2), (3, 3), (4, 4), (5, 5), (6, 6)]) (nx := 7) rfl)) g
    | false =>
      have e : [kA l[i], kB l[i], kC l[i]] ≠ [x, y, z] := fun e => by
        simp only [List.cons.injEq, and_true] at e
        rw [e.1, e.2.1, e.2.2] at ht
        simp at ht
      have h := cc_3n es l P R S A G nn n c x y z (i : Int) a b
      rw [eA, eA, eA, mapD kA hlt, mapD kB hlt, mapD kC hlt, ht, iz_nat, Int.toNat_natCast, decide_eq_true hli, decide_eq_true (show 0 ≤ (i : Int) by omega), decide_eq_true hlt, Bool.or_true, Bool.or_true, up1_nat (by omega)] at h
      have g := cc_final hk hp hn x y z nn c P R S A G n j (i + 1) a b (by omega) (fun hd => hq (by
        rw [List.drop_eq_getElem_cons hlt]
        intro e' he'
        rcases List.mem_cons.1 he' with rfl | he'
        · exact e
        · exact hd e' he'))
      exact Goes.gives ((HO_head (hE_cc es l) mixedP rfl h rfl).trans (Goes.ren (P := Try.prog) (B := 1) (σ := [(0, 0), (1, 1), (2, 2), (3, 3), (4, 4), (5, 5), (6, 6)]) (nx := 7) rfl)) g
theorem cc_loop2 (hk : KD es) (hp : ∀ e, e ∈ l ↔ e ∈ es) (hl : l.length ≤ 4096) (hn : n ≤ 4096) (hP : n ≤ P.length) (hR : n ≤ R.length) (hS : n ≤ S.length) (hA : n ≤ A.length) (hG : n ≤ G.length) (x y z : Int) (nn : Bool) (c : Option Nat) : ∀ (j i : Nat), i + j = n →
    Gives_ Try.prog Try.f4 1 ⟨hd Try.f4 1, ccT nn n c l.length .unk (vi (i : Int)) .unk .unk .unk, ccM P R S A G x y z es l [] 5⟩ (vb true) ⟨[], 200⟩
  | 0, i, hi => by
    have h := cc_2e es l P R S A G nn n c x y z (i : Int)
    rw [decide_eq_false (show ¬ (i : Int) < Int.ofNat n by show ¬ (i : Int) < (n : Int); omega)] at h
    have g := cc_final hk hp hl x y z nn c P R S A G n l.length 0 0 0 (by omega) (fun hno => by
      rw [List.drop_zero] at hno
      have : lookM es [x, y, z] = none := by
        cases hq : lookM es [x, y, z] with
        | none => rfl
        | some v =>
          have hm := (mem_look hk.2 ([x, y, z], v)).2 hq
          exact absurd rfl (hno _ ((hp _).2 hm))
      rw [this]
      exact ⟨rfl, rfl⟩)
    exact Goes.gives (((HO_head (hE_cc es l) mixedP rfl h rfl).trans (Goes.mask [0, 3, 5, 6, 9, 10, 11])).trans (Goes.ren (P := Try.prog) (B := 1) (σ := [(0, 0), (1, 1), (2, 2), (3, 3), (4, 4), (5, 5), (6, 6)]) (nx := 7) rfl)) g
  | j + 1, i, hi => by
    have h := cc_2 es l P R S A G nn n c x y z (i : Int)
    have hli : (i : Int) < Int.ofNat n := by show (i : Int) < (n : Int); omega
    have hlt : i < n := by omega
    have key : ∀ (p r s a : Int) (g : Bool), (bif (haymowref12_Check_0 p r s a g == 0) then !(s == s && (census_Of_0 p r s a g == haymowref04_Of_0 (haymowref13_Words_0 p r) && (a == a && true))) else false) = false ∧ (!(haymowref12_Check_0 p r s a g == 0) || c_census_Of p r s a g) = true := fun p r s a g => by
      rw [ref_ok]
      by_cases ho : OkH p r s a
      · rw [decide_eq_true ho, (of_cls ho).1, (of_cls ho).2, ref_words ho, cls]
        simp
      · rw [decide_eq_false ho]
        simp
    rw [(key _ _ _ _ _).1, (key _ _ _ _ _).2, iz_nat, Int.toNat_natCast, decide_eq_true hli, decide_eq_true (show 0 ≤ (i : Int) by omega), decide_eq_true hlt, decide_eq_true (show i < P.length by omega), decide_eq_true (show i < R.length by omega), decide_eq_true (show i < S.length by omega), decide_eq_true (show i < A.length by omega), decide_eq_true (show i < G.length by omega), Bool.or_true, up1_nat (by omega)] at h
    exact Goes.gives ((HO_head (hE_cc es l) mixedP rfl h rfl).trans (Goes.ren (P := Try.prog) (B := 1) (σ := [(0, 0), (1, 1), (2, 2), (3, 3), (4, 4)]) (nx := 5) rfl)) (cc_loop2 hk hp hl hn hP hR hS hA hG x y z nn c j (i + 1) (by omega))
theorem cc_loop1 (hk : KD es) (hp : ∀ e, e ∈ l ↔ e ∈ es) (hl : l.length ≤ 4096) (hn : n ≤ 4096) (hP : n ≤ P.length) (hR : n ≤ R.length) (hS : n ≤ S.length) (hA : n ≤ A.length) (hG : n ≤ G.length) (x y z : Int) (nn : Bool) (c : Option Nat) : ∀ (j i : Nat), i + j = l.length →
    Gives_ Try.prog Try.f4 1 ⟨hd Try.f4 0, ccT nn n c l.length (vi (i : Int)) .unk .unk .unk .unk, ccM P R S A G x y z es l [] 5⟩ (vb true) ⟨[], 200⟩
  | 0, i, hi => by
    have h := cc_1e es l P R S A G nn n c x y z (i : Int)
    rw [decide_eq_false (show ¬ (i : Int) < Int.ofNat l.length by show ¬ (i : Int) < (l.length : Int); omega)] at h
    have h2 : Goes Try.prog 1 ⟨hd Try.f4 0, ccT nn n c l.length (vi (i : Int)) .unk .unk .unk .unk, ccM P R S A G x y z es l [] 5⟩ ⟨hd Try.f4 1, ccT nn n c l.length .unk (vi 0) .unk .unk .unk, ccM P R S A G x y z es l [] 5⟩ :=
      ((HO_head (hE_ccH es l) mixedP rfl h rfl).trans (Goes.mask [0, 3, 5, 6, 8])).trans (Goes.ren (P := Try.prog) (B := 1) (σ := [(0, 0), (1, 1), (2, 2), (3, 3), (4, 4)]) (nx := 5) rfl)
    exact Goes.gives h2 (cc_loop2 hk hp hl hn hP hR hS hA hG x y z nn c n 0 (by omega))
  | j + 1, i, hi => by
    have hlt : i < l.length := by omega
    have hli : (i : Int) < Int.ofNat l.length := by show (i : Int) < (l.length : Int); omega
    have eA : ∀ f : KV → Int, (l.map f).length = l.length := fun f => List.length_map ..
    have h := cc_1 es l P R S A G nn n c x y z (i : Int)
    have hm := (hp _).1 (List.getElem_mem hlt)
    rw [eA, eA, eA, eA, eA, mapD kA hlt, mapD kB hlt, mapD kC hlt, mapD kD hlt, mapD kE hlt, look_of hk hm, hk.keys, iz_nat, Int.toNat_natCast, decide_eq_true hli, decide_eq_true (show 0 ≤ (i : Int) by omega), decide_eq_true hlt, up1_nat (by omega)] at h
    have e1 : ((l[i].2).headD 0 == kD l[i] && ((l[i].2).tail.headD 0 == kE l[i] && true)) = true := by
      unfold kD kE
      rw [beq_self_eq_true, beq_self_eq_true]; rfl
    rw [e1] at h
    exact Goes.gives ((HO_head (hE_ccH es l) mixedP rfl h rfl).trans (Goes.ren (P := Try.prog) (B := 1) (σ := [(0, 0), (1, 1), (2, 2), (3, 3), (4, 4)]) (nx := 5) rfl)) (cc_loop1 hk hp hl hn hP hR hS hA hG x y z nn c j (i + 1) (by omega))
end
theorem cols_tot (f : KV → Int) (l : List KV) (hf : ∀ e ∈ l, 0 ≤ f e ∧ f e ≤ MX) (hl : l.length ≤ 4096) (p : KV → Bool) : toC ((l.filter p).map f) 0 (l.filter p).length 0 = totF p f l 0 := by
  have hfl : (l.filter p).length ≤ l.length := List.length_filter_le ..
  rw [toC_map f _ _ 0 0 (by omega), List.drop_zero, tot_sum p f l 0 hf (by omega) (by unfold MX; omega), tot_sum (pTotal 0) f _ 0 (fun e he => hf e (List.mem_filter.1 he).1) (by omega) (by unfold MX; omega), sumP_filter]
theorem counts23_any (X : Option Addr) (n k : Nat) (cs : List Col) (i : LI) (x y z : Int) (w : World) (hin : InB w X n (.rows cs) i) (hnc : n ≤ k) (hf : Fits n [.i .i64, .i .i64, .i .i64, .i .i64, .b] cs) : Gives 4 #[.slice X n k, .agg #[.int .i64 x, .int .i64 y, .int .i64 z]] w (.bool true) := by
  obtain ⟨_, _, rfl, ⟨P, rfl, h1, _⟩, _, _, rfl, ⟨R, rfl, h2, _⟩, _, _, rfl, ⟨S, rfl, h3, _⟩, _, _, rfl, ⟨Q, rfl, h4, _⟩, _, _, rfl, ⟨G, rfl, h5⟩, rfl⟩ := hf
  have hm : MRel (fun _ => i) ⟨[(0, some ⟨false, false, hdC P R S Q G⟩)], 1⟩ w := mrel_one (hin.ok _ _)
  have hx : AV.rels (fun _ => i) 1 [.sl false 0 5 0 1 n (some k), .agg [vi x, vi y, vi z]] [.slice X n k, .agg #[.int .i64 x, .int .i64 y, .int .i64 z]] := by
    simp only [AV.rels]
    refine ⟨_, _, rfl, hin.arg (ρ := fun _ => i) (by omega) hnc 5 1, _, _, rfl, ?_, rfl⟩
    simp only [AV.rel, AV.rels]
    exact ⟨_, rfl, _, _, rfl, rfl, _, _, rfl, rfl, _, _, rfl, rfl, rfl⟩
  refine gives_true (c := bodyOf Try.f4) (m' := ⟨[], 200⟩) Try.func4 rfl ?_ rfl hm hx
  by_cases hn : 40 < n
  · have he := cc_big [] [] P R S Q G false n (some k) x y z
    rw [decide_eq_true (show (40 : Int) < Int.ofNat n by show (40 : Int) < (n : Int); omega)] at he
    exact FO_ret (hE_cc [] []) mixedP rfl rfl he rfl
  · have hh := of_holds P R S Q n 0 [] [] holds_nil (by simp; omega)
    have hlen := of_len P R S Q n 0 []
    simp only [List.length_nil, Nat.zero_add] at hlen
    rw [List.nil_append] at hh
    generalize hes : ofF P R S Q 0 n [] = es at hh hlen
    have hs := sort_RF hh
    have hr := fun e he => hh.row (by rw [hdI_len]; omega) (e := e) he
    generalize hl : RF (hdI P R S Q 0 n) = l at hs
    have hll : l.length = es.length := by rw [← hs, sortK_len]
    have hp : ∀ e, e ∈ l ↔ e ∈ es := fun e => by rw [← hs]; exact (sortK_perm es).mem_iff
    rw [hs] at hr
    have hD : ∀ e ∈ l, 0 ≤ kD e ∧ kD e ≤ MX := fun e he => (hr e he).2.2.2.1
    have hE : ∀ e ∈ l, 0 ≤ kE e ∧ kE e ≤ MX := fun e he => (hr e he).2.2.2.2.1
    have hl4 : l.length ≤ 4096 := by omega
    have he := cc_in es l P R S Q G false n (some k) x y z
    have eA : ∀ (f : KV → Int) (L : List KV), (L.map f).length = L.length := fun f L => List.length_map ..
    have eF : ∀ p : KV → Bool, (l.filter p).length ≤ 4096 := fun p => Nat.le_trans (List.length_filter_le ..) hl4
    have c0 : ∀ f : KV → Int, (∀ e ∈ l, 0 ≤ f e ∧ f e ≤ MX) → toC (l.map f) 0 l.length 0 = totF (pTotal 0) f l 0 := fun f hf => by
      rw [toC_map f _ _ 0 0 (by omega), List.drop_zero]
    have p0 : ∀ x, someP 0 x = pSite x := fun x => rfl
    have p1 : ∀ x, someP 1 x = pClass x := fun x => rfl
    have p2 : ∀ x, someP 2 x = pOld x := fun x => rfl
    simp only [eA] at he
    rw [hes, hl, hs, decide_eq_true hh.1, c0 kD hD, c0 kE hE, p0, p1, p2, cols_tot kD l hD hl4, cols_tot kE l hE hl4, cols_tot kD l hD hl4, cols_tot kE l hE hl4, cols_tot kD l hD hl4, cols_tot kE l hE hl4] at he
    rw [beq_self_eq_true, beq_self_eq_true, beq_self_eq_true, beq_self_eq_true, beq_self_eq_true, beq_self_eq_true, beq_self_eq_true, beq_self_eq_true] at he
    rw [decide_eq_false (show ¬ (40 : Int) < Int.ofNat n by show ¬ (40 : Int) < (n : Int); omega), Nat.ble_eq_true_of_le (show n ≤ 4096 by omega), Nat.ble_eq_true_of_le (show n ≤ P.length by omega), Nat.ble_eq_true_of_le (show n ≤ R.length by omega), Nat.ble_eq_true_of_le (show n ≤ S.length by omega), Nat.ble_eq_true_of_le (show n ≤ Q.length by omega), Nat.ble_eq_true_of_le (show n ≤ G.length by omega),
      Nat.ble_eq_true_of_le (show es.length ≤ 4096 by omega), Nat.ble_eq_true_of_le hl4, Nat.ble_eq_true_of_le (Nat.le_refl l.length), Nat.ble_eq_true_of_le (eF (pSite x)), Nat.ble_eq_true_of_le (eF (pClass y)), Nat.ble_eq_true_of_le (eF (pOld z)), Nat.ble_eq_true_of_le (Nat.le_refl (l.filter (pSite x)).length), Nat.ble_eq_true_of_le (Nat.le_refl (l.filter (pClass y)).length), Nat.ble_eq_true_of_le (Nat.le_refl (l.filter (pOld z)).length)] at he
    simp only [decide_true] at he
    exact Goes.gives ((FO_head (f := Try.f4) (c := bodyOf Try.f4) (hE_ccH es l) mixedP rfl rfl he rfl).trans (Goes.ren (P := Try.prog) (B := 1) (σ := [(0, 0), (1, 1), (2, 2), (3, 3), (4, 4)]) (nx := 5) rfl)) (cc_loop1 hh.1 hp hl4 (by omega) (by omega) (by omega) (by omega) (by omega) (by omega) x y z false (some k) l.length 0 (by omega))
set_option maxRecDepth 100000 in
theorem censusCounts_lifted (os : Os) (started : os.Started) (H : Type) (enc : TypeId × Value → H) :
    ReturnsInHanded {} Try.checked os 4 .any (Rows.censusCountsSpec.pre6 enc Try.prog Try.f4 Rows.censusCountsRow.domain false) (Rows.censusCountsSpec.post enc Try.prog Try.f4 false true false false) := by
  refine returnsInHanded_of_change (C := Try.checked) Try.own started (by kernel_rfl) Try.func4
    (ChangeSpec.witness6 (enc := enc) (C := Try.checked) false ⟨#[], #[.slice none 0 0, .agg #[.int .i64 0, .int .i64 0, .int .i64 0]], []⟩ 8 (by kernel_rfl) (by kernel_rfl) (by kernel_rfl) (by kernel_rfl)) ?_
  intro W base args ds gs before hval0 hW hcnd hsized
  have hval : ∀ (j : Nat) t v, Try.f4.params[j]? = some t → args[j]? = some v → Value.okWide Try.prog W .any base t v := hval0
  have hW' := hW
  obtain ⟨p, q, hA0, hV, rfl, hfz, hnd⟩ := hW
  have hA : DataW.TrodAll enc Try.prog W 0 (fun _ => true) true Try.f4.params.toList args.toList ds p := hA0
  rw [Try.params4] at hA hval
  obtain ⟨v0, v1, d0, d1, p0, p1, rfl, rfl, rfl, h0, h1⟩ := trodAll_two hA
  obtain ⟨A, n, c, cs, i, rfl, hnc, hc, hf, hin⟩ := open_nrows [.i .i64, .i .i64, .i .i64, .i .i64, .b] Try.underlying22 (show leavesT Try.prog 9 50 = some [3, 3, 3, 3, 4] by kernel_rfl) (by kernel_rfl) (by decide) (by kernel_rfl) (hval 0 _ v0 rfl rfl) h0
  obtain ⟨l1_, rfl, hl1_, hg1_⟩ := open_flat (ls := [3, 3, 3]) Try.underlying31 rfl (by kernel_rfl) (by kernel_rfl) (hval 1 _ v1 rfl rfl) h1
  obtain ⟨c1_0, r1_0, rfl, hr1_0⟩ := list_cons hl1_
  obtain ⟨c1_1, r1_1, rfl, hr1_1⟩ := list_cons hr1_0
  obtain ⟨c1_2, r1_2, rfl, hr1_2⟩ := list_cons hr1_1
  cases list_nil hr1_2
  obtain ⟨x, rfl, wx⟩ := field_int Try.underlying3 (hg1_ 0 _ _ rfl rfl)
  obtain ⟨y, rfl, wy⟩ := field_int Try.underlying3 (hg1_ 1 _ _ rfl rfl)
  obtain ⟨z, rfl, wz⟩ := field_int Try.underlying3 (hg1_ 2 _ _ rfl rfl)
  refine Gives.use (counts23_any A n c cs i x y z W hin hnc hf) fun W' hb => ?_
  exact ⟨_, rfl, law_post Try.laidOut (by kernel_rfl) (by kernel_rfl) Try.underlying4 rfl hW' ⟨rfl, rfl, rfl⟩ hb⟩
theorem censusCounts_holds : Rows.CensusCountsSaid :=
  OpenClaim.holds_of_wide 4 Try.f4 rfl rfl rfl rfl rfl rfl rfl ⟨rfl, rfl, rfl, rfl, rfl⟩ rfl rfl rfl rfl rfl (by kernel_rfl) Try.func4 (by kernel_rfl)
    (of_decide_eq_true (by kernel_rfl)) (by unfold Func.isWrapper; first | (rw [if_pos (by decide +kernel)]; kernel_rfl) | (rw [if_neg (by decide +kernel)]; exact ⟨rfl, rfl⟩))
    (fun os started H enc _ => censusCounts_lifted os started H enc)
end Go.Proofs.Ytbjealobiblabaa

namespace Go.Proofs.Ytbjealobiblabaa
open Go Go.RowKit
set_option maxRecDepth 100000
/-- Rows laid onto a map. -/
def mgF : List KV → List KV → List KV
  | es, [] => es
  | es, e :: l => mgF (addM es [kA e, kB e, kC e] (kD e) (kE e)) l
abbrev L_mg (P : Program) (f : Func) : List (FuncId × Spec) := [(47, inl P [] f), (18, e_rows), (70, e_census_Sum_plus)]
theorem hE_mg : ESound Try.prog (envOf (L_mg Try.prog Try.f47)) := env_cons (inl_ok env_nil mixedP (fun xs w => Try.call47 xs w) Try.func47 rfl) (env_cons ok_rows (env_cons ok_census_Sum_plus env_nil))
abbrev mgC (a : Nat) : List Cut := [(6,[5,7,13,14,15,20,21,22],[0,1,2,3,4,5,6,7,8],a)]
abbrev mgI (es es' : List KV) : List (Nat × Option ABlk) := [(0, some ⟨false, false, .cells [.mp 1]⟩), (1, some ⟨false, false, .obj (.mpo 3 2 es)⟩), (2, some ⟨false, false, .cells [.mp 3]⟩), (3, some ⟨false, false, .obj (.mpo 3 2 es')⟩)]
abbrev mgO (mp : List KV) : List (Nat × Option ABlk) := [(4, some ⟨true, false, .obj (.mpo 3 2 mp)⟩), (5, some ⟨true, false, .cells [.mp 4]⟩)]
abbrev mgS (a b : AV) : Nat × Option ABlk := (6, some ⟨true, false, .cells [a, b]⟩)
abbrev mgT (c : AV) (k : Int) (r n : AV) (i : AV) : List AV := [.unk, .unk, .unk, .unk, .unk, .ptr 5 1 0 0, .unk, c, .unk, .unk, .unk, .unk, .unk, .sl true 6 1 0 1 2 (some 2), vi 2, vi k, .unk, .unk, .unk, .unk, r, n, i] ++ List.replicate 22 .unk
abbrev mgK (mp l : List KV) (i : Int) : List KV := addM mp [(l.map kA).getD (iz i) 0, (l.map kB).getD (iz i) 0, (l.map kC).getD (iz i) 0] ((l.map kD).getD (iz i) 0) ((l.map kE).getD (iz i) 0)
theorem mgA_in (es es' : List KV) : FO_ Try.prog (L_mg Try.prog Try.f47) Try.f27 (mgC 9) [] 99 [] [.ptr 0 1 0 0, .ptr 2 1 0 0] ⟨mgI es es', 4⟩ = some (.head (hd Try.f27 1) (mgT (.ptr 0 1 0 0) 0 (.sl false 7 5 0 1 es.length none) (vi (Int.ofNat es.length)) (vi 0)) ⟨mgI es es' ++ mgO [] ++ [mgS (.ptr 0 1 0 0) (.ptr 2 1 0 0), (7, some ⟨false, false, .rows (colsF fs5 (sortK es))⟩), (8, none)], 9⟩ (conj [decide (KD es), Nat.ble es.length 4096])) := by kernel_rfl
theorem mgA_0 (es es' mp l : List KV) (n : Nat) (i : Int) : HO_ Try.prog (L_mg Try.prog Try.f47) Try.f27 (mgC 19) [] 99 [1] (hd Try.f27 1) (mgT (.ptr 0 1 0 0) 0 (.sl false 7 5 0 1 n none) (vi (Int.ofNat n)) (vi i)) ⟨mgI es es' ++ mgO mp ++ [mgS (.ptr 0 1 0 0) (.ptr 2 1 0 0), (7, some ⟨false, false, .rows (colsF fs5 l)⟩)], 8⟩ = some (.head (hd Try.f27 1) (mgT (.ptr 0 1 0 0) 0 (.sl false 7 5 0 1 n none) (vi (Int.ofNat n)) (vi (up1 i))) ⟨mgI es es' ++ mgO (mgK mp l i) ++ [mgS (.ptr 0 1 0 0) (.ptr 2 1 0 0), (7, some ⟨false, false, .rows (colsF fs5 l)⟩), (8, some ⟨true, false, .cells [vi ((l.map kA).getD (iz i) 0), vi ((l.map kB).getD (iz i) 0), vi ((l.map kC).getD (iz i) 0), vi ((l.map kD).getD (iz i) 0), vi ((l.map kE).getD (iz i) 0)]⟩)], 19⟩ (conj [decide (i < Int.ofNat n), decide (0 ≤ i), decide (i.toNat < n), decide (iz i < (l.map kA).length), decide (iz i < (l.map kB).length), decide (iz i < (l.map kC).length), decide (iz i < (l.map kD).length), decide (iz i < (l.map kE).length), keysN 3 mp, keysN 3 mp])) := by kernel_rfl
theorem mgA_0e (es es' mp l : List KV) (n : Nat) (i : Int) : HO_ Try.prog (L_mg Try.prog Try.f47) Try.f27 (mgC 19) [] 99 [0] (hd Try.f27 1) (mgT (.ptr 0 1 0 0) 0 (.sl false 7 5 0 1 n none) (vi (Int.ofNat n)) (vi i)) ⟨mgI es es' ++ mgO mp ++ [mgS (.ptr 0 1 0 0) (.ptr 2 1 0 0), (7, some ⟨false, false, .rows (colsF fs5 l)⟩)], 8⟩ = some (.head (hd Try.f27 1) (mgT (.ptr 2 1 0 0) 1 (.sl false 8 5 0 1 es'.length none) (vi (Int.ofNat es'.length)) (vi 0)) ⟨mgI es es' ++ mgO mp ++ [mgS (.ptr 0 1 0 0) (.ptr 2 1 0 0), (7, some ⟨false, false, .rows (colsF fs5 l)⟩), (8, some ⟨false, false, .rows (colsF fs5 (sortK es'))⟩)], 19⟩ (conj [!decide (i < Int.ofNat n), decide (KD es'), Nat.ble es'.length 4096])) := by kernel_rfl
theorem mgA_1 (es es' mp l : List KV) (n : Nat) (i : Int) : HO_ Try.prog (L_mg Try.prog Try.f47) Try.f27 (mgC 19) [] 99 [1] (hd Try.f27 1) (mgT (.ptr 2 1 0 0) 1 (.sl false 7 5 0 1 n none) (vi (Int.ofNat n)) (vi i)) ⟨mgI es es' ++ mgO mp ++ [mgS (.ptr 0 1 0 0) (.ptr 2 1 0 0), (7, some ⟨false, false, .rows (colsF fs5 l)⟩)], 8⟩ = some (.head (hd Try.f27 1) (mgT (.ptr 2 1 0 0) 1 (.sl false 7 5 0 1 n none) (vi (Int.ofNat n)) (vi (up1 i))) ⟨(mgI es es' ++ mgO (mgK mp l i) ++ [mgS (.ptr 0 1 0 0) (.ptr 2 1 0 0), (7, some ⟨false, false, .rows (colsF fs5 l)⟩), (8, some ⟨true, false, .cells [vi ((l.map kA).getD (iz i) 0), vi ((l.map kB).getD (iz i) 0), vi ((l.map kC).getD (iz i) 0), vi ((l.map kD).getD (iz i) 0), vi ((l.map kE).getD (iz i) 0)]⟩)]), 19⟩ (conj [decide (i < Int.ofNat n), decide (0 ≤ i), decide (i.toNat < n), decide (iz i < (l.map kA).length), decide (iz i < (l.map kB).length), decide (iz i < (l.map kC).length), decide (iz i < (l.map kD).length), decide (iz i < (l.map kE).length), keysN 3 mp, keysN 3 mp])) := by kernel_rfl
theorem mgA_1e (es es' mp l : List KV) (n : Nat) (i : Int) : HO_ Try.prog (L_mg Try.prog Try.f47) Try.f27 (mgC 19) [4, 5] 99 [0] (hd Try.f27 1) (mgT (.ptr 2 1 0 0) 1 (.sl false 7 5 0 1 n none) (vi (Int.ofNat n)) (vi i)) ⟨mgI es es' ++ mgO mp ++ [mgS (.ptr 0 1 0 0) (.ptr 2 1 0 0), (7, some ⟨false, false, .rows (colsF fs5 l)⟩)], 8⟩ = some (.ret (.ptr 5 1 0 0) ⟨mgO mp, 99⟩ (conj [!decide (i < Int.ofNat n)])) := by kernel_rfl
theorem mgA_l1 (es es' l : List KV) (hl : l.length ≤ 4096) : ∀ (j i : Nat) (mp : List KV), i + j = l.length → KD mp →
    Gives_ Try.prog Try.f27 4 ⟨(hd Try.f27 1), mgT (.ptr 2 1 0 0) 1 (.sl false 7 5 0 1 l.length none) (vi (Int.ofNat l.length)) (vi (i : Int)), ⟨mgI es es' ++ mgO mp ++ [mgS (.ptr 0 1 0 0) (.ptr 2 1 0 0), (7, some ⟨false, false, .rows (colsF fs5 l)⟩)], 8⟩⟩ (.ptr 5 1 0 0) ⟨mgO (mgF mp (l.drop i)), 99⟩
  | 0, i, mp, hi, hk => by
    have h := mgA_1e es es' mp l l.length (i : Int)
    rw [decide_eq_false (show ¬ (i : Int) < Int.ofNat l.length by show ¬ (i : Int) < (l.length : Int); omega)] at h
    rw [List.drop_of_length_le (by omega)]
    exact HO_ret hE_mg mixedP rfl h rfl
  | j + 1, i, mp, hi, hk => by
    have hlt : i < l.length := by omega
    have h := mgA_1 es es' mp l l.length (i : Int)
    rw [decide_eq_true (show (i : Int) < Int.ofNat l.length by show (i : Int) < (l.length : Int); omega), mgK, mapD kA hlt, mapD kB hlt, mapD kC hlt, mapD kD hlt, mapD kE hlt, iz_nat, Int.toNat_natCast, decide_eq_true (show 0 ≤ (i : Int) by omega), decide_eq_true hlt, List.length_map, List.length_map, List.length_map, List.length_map, List.length_map, decide_eq_true hlt, hk.keys, up1_nat (by omega)] at h
    rw [List.drop_eq_getElem_cons hlt, mgF]
    exact Goes.gives ((HO_head hE_mg mixedP rfl h rfl).trans (Goes.ren (P := Try.prog) (B := 4) (σ := [(0, 0), (1, 1), (2, 2), (3, 3), (4, 4), (5, 5), (6, 6), (7, 7)]) (nx := 8) rfl)) (mgA_l1 es es' l hl j (i + 1) _ (by omega) (hk.add rfl _ _))
theorem mgA_l0 (es es' l : List KV) (hl : l.length ≤ 4096) (hk' : KD es') (hn' : es'.length ≤ 4096) : ∀ (j i : Nat) (mp : List KV), i + j = l.length → KD mp →
    Gives_ Try.prog Try.f27 4 ⟨(hd Try.f27 1), mgT (.ptr 0 1 0 0) 0 (.sl false 7 5 0 1 l.length none) (vi (Int.ofNat l.length)) (vi (i : Int)), ⟨mgI es es' ++ mgO mp ++ [mgS (.ptr 0 1 0 0) (.ptr 2 1 0 0), (7, some ⟨false, false, .rows (colsF fs5 l)⟩)], 8⟩⟩ (.ptr 5 1 0 0) ⟨mgO (mgF (mgF mp (l.drop i)) (sortK es')), 99⟩
  | 0, i, mp, hi, hk => by
    have h := mgA_0e es es' mp l l.length (i : Int)
    rw [decide_eq_false (show ¬ (i : Int) < Int.ofNat l.length by show ¬ (i : Int) < (l.length : Int); omega), decide_eq_true hk', Nat.ble_eq_true_of_le hn', ← sortK_len es'] at h
    rw [List.drop_of_length_le (by omega)]
    have g := mgA_l1 es es' (sortK es') (by rw [sortK_len]; exact hn') (sortK es').length 0 mp (by omega) hk
    rw [List.drop_zero] at g
    exact Goes.gives ((HO_head hE_mg mixedP rfl h rfl).trans (Goes.ren (P := Try.prog) (B := 4) (σ := [(0, 0), (1, 1), (2, 2), (3, 3), (4, 4), (5, 5), (6, 6), (7, 8)]) (nx := 8) rfl)) g
  | j + 1, i, mp, hi, hk => by
    have hlt : i < l.length := by omega
    have h := mgA_0 es es' mp l l.length (i : Int)
    rw [decide_eq_true (show (i : Int) < Int.ofNat l.length by show (i : Int) < (l.length : Int); omega), mgK, mapD kA hlt, mapD kB hlt, mapD kC hlt, mapD kD hlt, mapD kE hlt, iz_nat, Int.toNat_natCast, decide_eq_true (show 0 ≤ (i : Int) by omega), decide_eq_true hlt, List.length_map, List.length_map, List.length_map, List.length_map, List.length_map, decide_eq_true hlt, hk.keys, up1_nat (by omega)] at h
    rw [List.drop_eq_getElem_cons hlt, mgF]
    exact Goes.gives ((HO_head hE_mg mixedP rfl h rfl).trans (Goes.ren (P := Try.prog) (B := 4) (σ := [(0, 0), (1, 1), (2, 2), (3, 3), (4, 4), (5, 5), (6, 6), (7, 7)]) (nx := 8) rfl)) (mgA_l0 es es' l hl hk' hn' j (i + 1) _ (by omega) (hk.add rfl _ _))
theorem mgA_all (es es' : List KV) (hk : KD es) (hn : es.length ≤ 4096) (hk' : KD es') (hn' : es'.length ≤ 4096) : Gives_ Try.prog Try.f27 4 (enterA Try.f27 (bodyOf Try.f27) [.ptr 0 1 0 0, .ptr 2 1 0 0] ⟨mgI es es', 4⟩) (.ptr 5 1 0 0) ⟨mgO (mgF (mgF [] (sortK es)) (sortK es')), 99⟩ := by
  have h := mgA_in es es'
  rw [decide_eq_true hk, Nat.ble_eq_true_of_le hn, ← sortK_len es] at h
  have g := mgA_l0 es es' (sortK es) (by rw [sortK_len]; exact hn) hk' hn' (sortK es).length 0 [] (by omega) nil_KD
  rw [List.drop_zero] at g
  exact Goes.gives ((FO_head (f := Try.f27) (c := bodyOf Try.f27) (m := ⟨mgI es es', 4⟩) (cuts := mgC 9) hE_mg mixedP rfl rfl h rfl).trans (Goes.ren (P := Try.prog) (B := 4) (σ := [(0, 0), (1, 1), (2, 2), (3, 3), (4, 4), (5, 5), (6, 6), (7, 7)]) (nx := 8) rfl)) g
theorem mgN_in (es' : List KV) : FO_ Try.prog (L_mg Try.prog Try.f47) Try.f27 (mgC 9) [] 99 [] [.val (.pointer none), .ptr 2 1 0 0] ⟨[(2, some ⟨false, false, .cells [.mp 3]⟩), (3, some ⟨false, false, .obj (.mpo 3 2 es')⟩)], 4⟩ = some (.head (hd Try.f27 1) (mgT (.val (.pointer none)) 0 (.val (.slice none 0 0)) (vi 0) (vi 0)) ⟨([(0, none), (1, none)] ++ [(2, some ⟨false, false, .cells [.mp 3]⟩), (3, some ⟨false, false, .obj (.mpo 3 2 es')⟩)] ++ mgO [] ++ [mgS (.val (.pointer none)) (.ptr 2 1 0 0), (7, none), (8, none)]), 9⟩ true) := by kernel_rfl
theorem mgN_0e (es' mp : List KV) : HO_ Try.prog (L_mg Try.prog Try.f47) Try.f27 (mgC 19) [] 99 [2] (hd Try.f27 1) (mgT (.val (.pointer none)) 0 (.val (.slice none 0 0)) (vi 0) (vi 0)) ⟨[(2, some ⟨false, false, .cells [.mp 3]⟩), (3, some ⟨false, false, .obj (.mpo 3 2 es')⟩)] ++ mgO mp ++ [mgS (.val (.pointer none)) (.ptr 2 1 0 0)], 8⟩ = some (.head (hd Try.f27 1) (mgT (.ptr 2 1 0 0) 1 (.sl false 8 5 0 1 es'.length none) (vi (Int.ofNat es'.length)) (vi 0)) ⟨([(0, none), (1, none)] ++ [(2, some ⟨false, false, .cells [.mp 3]⟩), (3, some ⟨false, false, .obj (.mpo 3 2 es')⟩)] ++ mgO mp ++ [mgS (.val (.pointer none)) (.ptr 2 1 0 0), (7, none), (8, some ⟨false, false, .rows (colsF fs5 (sortK es'))⟩)]), 19⟩ (conj [decide (KD es'), Nat.ble es'.length 4096])) := by kernel_rfl
theorem mgN_1 (es' mp l : List KV) (n : Nat) (i : Int) : HO_ Try.prog (L_mg Try.prog Try.f47) Try.f27 (mgC 19) [] 99 [1] (hd Try.f27 1) (mgT (.ptr 2 1 0 0) 1 (.sl false 7 5 0 1 n none) (vi (Int.ofNat n)) (vi i)) ⟨[(2, some ⟨false, false, .cells [.mp 3]⟩), (3, some ⟨false, false, .obj (.mpo 3 2 es')⟩)] ++ mgO mp ++ [mgS (.val (.pointer none)) (.ptr 2 1 0 0), (7, some ⟨false, false, .rows (colsF fs5 l)⟩)], 8⟩ = some (.head (hd Try.f27 1) (mgT (.ptr 2 1 0 0) 1 (.sl false 7 5 0 1 n none) (vi (Int.ofNat n)) (vi (up1 i))) ⟨([(0, none), (1, none)] ++ [(2, some ⟨false, false, .cells [.mp 3]⟩), (3, some ⟨false, false, .obj (.mpo 3 2 es')⟩)] ++ mgO (mgK mp l i) ++ [mgS (.val (.pointer none)) (.ptr 2 1 0 0), (7, some ⟨false, false, .rows (colsF fs5 l)⟩), (8, some ⟨true, false, .cells [vi ((l.map kA).getD (iz i) 0), vi ((l.map kB).getD (iz i) 0), vi ((l.map kC).getD (iz i) 0), vi ((l.map kD).getD (iz i) 0), vi ((l.map kE).getD (iz i) 0)]⟩)]), 19⟩ (conj [decide (i < Int.ofNat n), decide (0 ≤ i), decide (i.toNat < n), decide (iz i < (l.map kA).length), decide (iz i < (l.map kB).length), decide (iz i < (l.map kC).length), decide (iz i < (l.map kD).length), decide (iz i < (l.map kE).length), keysN 3 mp, keysN 3 mp])) := by kernel_rfl
theorem mgN_1e (es' mp l : List KV) (n : Nat) (i : Int) : HO_ Try.prog (L_mg Try.prog Try.f47) Try.f27 (mgC 19) [4, 5] 99 [0] (hd Try.f27 1) (mgT (.ptr 2 1 0 0) 1 (.sl false 7 5 0 1 n none) (vi (Int.ofNat n)) (vi i)) ⟨[(2, some ⟨false, false, .cells [.mp 3]⟩), (3, some ⟨false, false, .obj (.mpo 3 2 es')⟩)] ++ mgO mp ++ [mgS (.val (.pointer none)) (.ptr 2 1 0 0), (7, some ⟨false, false, .rows (colsF fs5 l)⟩)], 8⟩ = some (.ret (.ptr 5 1 0 0) ⟨mgO mp, 99⟩ (conj [!decide (i < Int.ofNat n)])) := by kernel_rfl
theorem mgN_l1 (es' l : List KV) (hl : l.length ≤ 4096) : ∀ (j i : Nat) (mp : List KV), i + j = l.length → KD mp →
    Gives_ Try.prog Try.f27 4 ⟨(hd Try.f27 1), mgT (.ptr 2 1 0 0) 1 (.sl false 7 5 0 1 l.length none) (vi (Int.ofNat l.length)) (vi (i : Int)), ⟨[(2, some ⟨false, false, .cells [.mp 3]⟩), (3, some ⟨false, false, .obj (.mpo 3 2 es')⟩)] ++ mgO mp ++ [mgS (.val (.pointer none)) (.ptr 2 1 0 0), (7, some ⟨false, false, .rows (colsF fs5 l)⟩)], 8⟩⟩ (.ptr 5 1 0 0) ⟨mgO (mgF mp (l.drop i)), 99⟩
  | 0, i, mp, hi, hk => by
    have h := mgN_1e es' mp l l.length (i : Int)
    rw [decide_eq_false (show ¬ (i : Int) < Int.ofNat l.length by show ¬ (i : Int) < (l.length : Int); omega)] at h
    rw [List.drop_of_length_le (by omega)]
    exact HO_ret hE_mg mixedP rfl h rfl
  | j + 1, i, mp, hi, hk => by
    have hlt : i < l.length := by omega
    have h := mgN_1 es' mp l l.length (i : Int)
    rw [decide_eq_true (show (i : Int) < Int.ofNat l.length by show (i : Int) < (l.length : Int); omega), mgK, mapD kA hlt, mapD kB hlt, mapD kC hlt, mapD kD hlt, mapD kE hlt, iz_nat, Int.toNat_natCast, decide_eq_true (show 0 ≤ (i : Int) by omega), decide_eq_true hlt, List.length_map, List.length_map, List.length_map, List.length_map, List.length_map, decide_eq_true hlt, hk.keys, up1_nat (by omega)] at h
    rw [List.drop_eq_getElem_cons hlt, mgF]
    exact Goes.gives ((HO_head hE_mg mixedP rfl h rfl).trans (Goes.ren (P := Try.prog) (B := 4) (σ := [(2, 2), (3, 3), (4, 4), (5, 5), (6, 6), (7, 7)]) (nx := 8) rfl)) (mgN_l1 es' l hl j (i + 1) _ (by omega) (hk.add rfl _ _))
theorem mgN_all (es' : List KV) (hk' : KD es') (hn' : es'.length ≤ 4096) : Gives_ Try.prog Try.f27 4 (enterA Try.f27 (bodyOf Try.f27) [.val (.pointer none), .ptr 2 1 0 0] ⟨[(2, some ⟨false, false, .cells [.mp 3]⟩), (3, some ⟨false, false, .obj (.mpo 3 2 es')⟩)], 4⟩) (.ptr 5 1 0 0) ⟨mgO (mgF [] (sortK es')), 99⟩ := by
  have h := mgN_in es'
  have h2 := mgN_0e es' []
  rw [decide_eq_true hk', Nat.ble_eq_true_of_le hn', ← sortK_len es'] at h2
  have g := mgN_l1 es' (sortK es') (by rw [sortK_len]; exact hn') (sortK es').length 0 [] (by omega) nil_KD
  rw [List.drop_zero] at g
  exact Goes.gives (((FO_head (f := Try.f27) (c := bodyOf Try.f27) (m := ⟨[(2, some ⟨false, false, .cells [.mp 3]⟩), (3, some ⟨false, false, .obj (.mpo 3 2 es')⟩)], 4⟩) (cuts := mgC 9) hE_mg mixedP rfl rfl h rfl).trans (Goes.ren (P := Try.prog) (B := 4) (σ := [(2, 2), (3, 3), (4, 4), (5, 5), (6, 6)]) (nx := 8) rfl)).trans ((HO_head hE_mg mixedP rfl h2 rfl).trans (Goes.ren (P := Try.prog) (B := 4) (σ := [(2, 2), (3, 3), (4, 4), (5, 5), (6, 6), (7, 8)]) (nx := 8) rfl))) g
def e_merge : Spec := fun m args => match args with
  | [.val (.pointer none), .ptr b 1 0 0] => match look m.bl b with
    | some ⟨_, _, .cells [.mp bm]⟩ => match look m.bl bm with
      | some ⟨_, _, .obj (.mpo 3 2 es')⟩ => some (.ptr (m.nx + 1) 1 0 0, some ⟨(m.nx, some ⟨true, false, .obj (.mpo 3 2 (mgF [] (sortK es')))⟩) :: (m.nx + 1, some ⟨true, false, .cells [.mp m.nx]⟩) :: m.bl, m.nx + 2⟩,
          [Nat.blt b m.nx, Nat.blt bm m.nx, decide (KD es'), Nat.ble es'.length 4096])
      | _ => none
    | _ => none
  | [.ptr a 1 0 0, .ptr b 1 0 0] => match look m.bl a, look m.bl b with
    | some ⟨_, _, .cells [.mp am]⟩, some ⟨_, _, .cells [.mp bm]⟩ => match look m.bl am, look m.bl bm with
      | some ⟨_, _, .obj (.mpo 3 2 es)⟩, some ⟨_, _, .obj (.mpo 3 2 es')⟩ => some (.ptr (m.nx + 1) 1 0 0, some ⟨(m.nx, some ⟨true, false, .obj (.mpo 3 2 (mgF (mgF [] (sortK es)) (sortK es')))⟩) :: (m.nx + 1, some ⟨true, false, .cells [.mp m.nx]⟩) :: m.bl, m.nx + 2⟩,
          [Nat.blt a m.nx, Nat.blt am m.nx, Nat.blt b m.nx, Nat.blt bm m.nx, !Nat.beq a b, !Nat.beq am bm, decide (KD es), Nat.ble es.length 4096, decide (KD es'), Nat.ble es'.length 4096])
      | _, _ => none
    | _, _ => none
  | _ => none
theorem ne_of_beq {a b : Nat} (h : (!Nat.beq a b) = true) : a ≠ b := fun e => by subst e; simp at h
theorem ok_merge : SpecOk Try.prog 27 e_merge := fun m args v mo bs h hb => by
  unfold e_merge at h
  split at h
  · rename_i b
    split at h <;> try cases h
    rename_i _ _ bm hl
    split at h <;> cases h
    rename_i _ _ _ es' hlm
    simp only [List.all_cons, List.all_nil, id, Bool.and_true, Bool.and_eq_true, decide_eq_true_eq] at hb
    obtain ⟨h1, h2, h3, h4⟩ := hb
    have h1 : b < m.nx := Nat.le_of_ble_eq_true h1
    have h2 : bm < m.nx := Nat.le_of_ble_eq_true h2
    have n1 : b ≠ bm := fun e => by subst e; rw [hl] at hlm; cases hlm
    have n2 : b ≠ m.nx := by omega
    have n3 : b ≠ m.nx + 1 := by omega
    have n4 : bm ≠ m.nx := by omega
    have n5 : bm ≠ m.nx + 1 := by omega
    have n6 : m.nx ≠ m.nx + 1 := by omega
    have f := fsound (c := bodyOf Try.f27) (fun xs w => Try.call27 xs w) Try.func27 rfl (mgN_all es' h3 (Nat.le_of_ble_eq_true h4))
    exact lift_gen (m := m) (args := [.val (.pointer none), .ptr b 1 0 0]) (σi := [(2, b), (3, bm)]) (σo := [(b, 2), (bm, 3), (m.nx, 4), (m.nx + 1, 5)]) (nx' := m.nx + 2) f (by
        simp only [AV.rens, AV.ren, newOf, Nat.beq_refl]) (fun k b1 hk => by
        rw [look_cons] at hk
        split at hk
        · rename_i e; subst e; cases hk
          refine ⟨b, _, by simp, hl, ?_, (fun h => by cases h), fun h => by cases h⟩
          simp only [Cont.ren, AV.rens, AV.ren, newOf, nbeq_ne n1, Nat.beq_refl]
        · rw [look_cons] at hk
          split at hk
          · rename_i e; subst e; cases hk
            exact ⟨bm, _, by simp, hlm, (Cont.ren_ground rfl).symm, (fun h => by cases h), fun h => by cases h⟩
          · cases hk)
      (fun p hp => by
        simp only [List.mem_cons, List.not_mem_nil, or_false] at hp
        rcases hp with rfl | rfl
        · exact ⟨by show (2 : Nat) < 4; omega, by simp⟩
        · exact ⟨by show (3 : Nat) < 4; omega, by simp⟩)
      rfl (by simp [distB, memB, nbeq_ne (Ne.symm n1)]) (by simp [distB, memB, nbeq_ne n1, nbeq_ne n2, nbeq_ne n3, nbeq_ne n4, nbeq_ne n5, nbeq_ne n6, nbeq_ne (Ne.symm n1), nbeq_ne (Ne.symm n2), nbeq_ne (Ne.symm n3), nbeq_ne (Ne.symm n4), nbeq_ne (Ne.symm n5), nbeq_ne (Ne.symm n6)]) rfl
      (fun p hp => by
        simp only [List.mem_cons, List.not_mem_nil, or_false] at hp
        rcases hp with rfl | rfl
        · exact ⟨_, hl⟩
        · exact ⟨_, hlm⟩)
      (fun p hp => by
        simp only [List.mem_cons, List.not_mem_nil, or_false] at hp
        rcases hp with rfl | rfl | rfl | rfl
        · exact .inl (by simp)
        · exact .inl (by simp)
        · exact .inr ⟨Nat.le_refl _, by show m.nx < m.nx + 2; omega⟩
        · exact .inr ⟨by show m.nx ≤ m.nx + 1; omega, by show m.nx + 1 < m.nx + 2; omega⟩) (by omega) (fun k bk hk _ => by
        rcases two_look' hk with e | e <;> (rw [e]; rfl))
  · rename_i a b
    split at h <;> try cases h
    rename_i _ _ am _ _ bm hl hl'
    split at h <;> cases h
    rename_i _ _ _ es _ _ es' hlm hlm'
    simp only [List.all_cons, List.all_nil, id, Bool.and_true, Bool.and_eq_true, decide_eq_true_eq] at hb
    obtain ⟨h1, h2, h3, h4, h5, h6, h7, h8, h9, h10⟩ := hb
    have h1 : a < m.nx := Nat.le_of_ble_eq_true h1
    have h2 : am < m.nx := Nat.le_of_ble_eq_true h2
    have h3 : b < m.nx := Nat.le_of_ble_eq_true h3
    have h4 : bm < m.nx := Nat.le_of_ble_eq_true h4
    have h5 := ne_of_beq h5
    have h6 := ne_of_beq h6
    have n1 : a ≠ am := fun e => by subst e; rw [hl] at hlm; cases hlm
    have n2 : a ≠ bm := fun e => by subst e; rw [hl] at hlm'; cases hlm'
    have n3 : b ≠ am := fun e => by subst e; rw [hl'] at hlm; cases hlm
    have n4 : b ≠ bm := fun e => by subst e; rw [hl'] at hlm'; cases hlm'
    have a1 : a ≠ m.nx := by omega
    have a2 : a ≠ m.nx + 1 := by omega
    have a3 : am ≠ m.nx := by omega
    have a4 : am ≠ m.nx + 1 := by omega
    have a5 : b ≠ m.nx := by omega
    have a6 : b ≠ m.nx + 1 := by omega
    have a7 : bm ≠ m.nx := by omega
    have a8 : bm ≠ m.nx + 1 := by omega
    have a9 : m.nx ≠ m.nx + 1 := by omega
    have f := fsound (c := bodyOf Try.f27) (fun xs w => Try.call27 xs w) Try.func27 rfl (mgA_all es es' h7 (Nat.le_of_ble_eq_true h8) h9 (Nat.le_of_ble_eq_true h10))
    exact lift_gen (m := m) (args := [.ptr a 1 0 0, .ptr b 1 0 0]) (σi := [(0, a), (1, am), (2, b), (3, bm)]) (σo := [(a, 0), (am, 1), (b, 2), (bm, 3), (m.nx, 4), (m.nx + 1, 5)]) (nx' := m.nx + 2) f (by
        simp only [AV.rens, AV.ren, newOf, Nat.beq_refl, nbeq_ne h5, nbeq_ne n1, nbeq_ne n3, nbeq_ne (Ne.symm n1), nbeq_ne (Ne.symm n3), nbeq_ne (Ne.symm h5)]) (fun k b1 hk => by
        rw [look_cons] at hk
        split at hk
        · rename_i e; subst e; cases hk
          refine ⟨a, _, by simp, hl, ?_, (fun h => by cases h), fun h => by cases h⟩
          simp only [Cont.ren, AV.rens, AV.ren, newOf, nbeq_ne n1, nbeq_ne (Ne.symm n1), Nat.beq_refl]
        · rw [look_cons] at hk
          split at hk
          · rename_i e; subst e; cases hk
            exact ⟨am, _, by simp, hlm, (Cont.ren_ground rfl).symm, (fun h => by cases h), fun h => by cases h⟩
          · rw [look_cons] at hk
            split at hk
            · rename_i e; subst e; cases hk
              refine ⟨b, _, by simp, hl', ?_, (fun h => by cases h), fun h => by cases h⟩
              simp only [Cont.ren, AV.rens, AV.ren, newOf, nbeq_ne n2, nbeq_ne h6, nbeq_ne n4, nbeq_ne (Ne.symm n2), nbeq_ne (Ne.symm h6), nbeq_ne (Ne.symm n4), Nat.beq_refl]
            · rw [look_cons] at hk
              split at hk
              · rename_i e; subst e; cases hk
                exact ⟨bm, _, by simp, hlm', (Cont.ren_ground rfl).symm, (fun h => by cases h), fun h => by cases h⟩
              · cases hk)
      (fun p hp => by
        simp only [List.mem_cons, List.not_mem_nil, or_false] at hp
        rcases hp with rfl | rfl | rfl | rfl
        · exact ⟨by show (0 : Nat) < 4; omega, by simp⟩
        · exact ⟨by show (1 : Nat) < 4; omega, by simp⟩
        · exact ⟨by show (2 : Nat) < 4; omega, by simp⟩
        · exact ⟨by show (3 : Nat) < 4; omega, by simp⟩)
      rfl (by simp [distB, memB, nbeq_ne n1, nbeq_ne n2, nbeq_ne n3, nbeq_ne n4, nbeq_ne h5, nbeq_ne h6, nbeq_ne (Ne.symm n1), nbeq_ne (Ne.symm n2), nbeq_ne (Ne.symm n3), nbeq_ne (Ne.symm n4), nbeq_ne (Ne.symm h5), nbeq_ne (Ne.symm h6)])
      (by simp [distB, memB, nbeq_ne n1, nbeq_ne n2, nbeq_ne n3, nbeq_ne n4, nbeq_ne h5, nbeq_ne h6, nbeq_ne (Ne.symm n1), nbeq_ne (Ne.symm n2), nbeq_ne (Ne.symm n3), nbeq_ne (Ne.symm n4), nbeq_ne (Ne.symm h5), nbeq_ne (Ne.symm h6), nbeq_ne a1, nbeq_ne a2, nbeq_ne a3, nbeq_ne a4, nbeq_ne a5, nbeq_ne a6, nbeq_ne a7, nbeq_ne a8, nbeq_ne a9, nbeq_ne (Ne.symm a1), nbeq_ne (Ne.symm a2), nbeq_ne (Ne.symm a3), nbeq_ne (Ne.symm a4), nbeq_ne (Ne.symm a5), nbeq_ne (Ne.symm a6), nbeq_ne (Ne.symm a7), nbeq_ne (Ne.symm a8), nbeq_ne (Ne.symm a9)]) rfl
      (fun p hp => by
        simp only [List.mem_cons, List.not_mem_nil, or_false] at hp
        rcases hp with rfl | rfl | rfl | rfl
        · exact ⟨_, hl⟩
        · exact ⟨_, hlm⟩
        · exact ⟨_, hl'⟩
        · exact ⟨_, hlm'⟩)
      (fun p hp => by
        simp only [List.mem_cons, List.not_mem_nil, or_false] at hp
        rcases hp with rfl | rfl | rfl | rfl | rfl | rfl
        · exact .inl (by simp)
        · exact .inl (by simp)
        · exact .inl (by simp)
        · exact .inl (by simp)
        · exact .inr ⟨Nat.le_refl _, by show m.nx < m.nx + 2; omega⟩
        · exact .inr ⟨by show m.nx ≤ m.nx + 1; omega, by show m.nx + 1 < m.nx + 2; omega⟩) (by omega) (fun k bk hk _ => by
        rcases two_look' hk with e | e <;> (rw [e]; rfl))
  · cases h
-- What it holds
theorem mg_holds {H : List Hd} : ∀ (l : List KV) (es : List KV) (H0 : List Hd), Holds es H0 → H0.length + H.length ≤ 100000 → (∀ e ∈ l, e.1.length = 3 ∧ e.2 = [(cnt e.1 H : Int), wrd e.1 H] ∧ cnt e.1 H ≠ 0) → (l.map (·.1)).Nodup → KD (mgF es l) ∧ ∀ k, lookM (mgF es l) k = if k ∈ l.map (·.1) then some [(cnt k H0 : Int) + cnt k H, wrd k H0 + wrd k H] else lookM es k := by
  suffices key : ∀ (l : List KV) (es : List KV) (H0 : List Hd), H0.length + H.length ≤ 100000 → KD es → (∀ k ∈ l.map (·.1), lookM es k = if cnt k H0 = 0 then none else some [(cnt k H0 : Int), wrd k H0]) → (∀ e ∈ l, e.1.length = 3 ∧ e.2 = [(cnt e.1 H : Int), wrd e.1 H] ∧ cnt e.1 H ≠ 0) → (l.map (·.1)).Nodup →
      KD (mgF es l) ∧ ∀ k, lookM (mgF es l) k = if k ∈ l.map (·.1) then some [(cnt k H0 : Int) + cnt k H, wrd k H0 + wrd k H] else lookM es k from
    fun l es H0 h hb he hn => key l es H0 hb h.1 (fun k _ => h.2 k) he hn
  intro l
  induction l with
  | nil => intro es H0 _ hk _ _ _; exact ⟨hk, fun k => by rw [if_neg (by simp)]; rfl⟩
  | cons e l ih =>
    intro es H0 hb hk hs he hn
    rw [List.map_cons, List.nodup_cons] at hn
    obtain ⟨h3, h2, h0⟩ := he e (List.mem_cons_self ..)
    have hkey : [kA e, kB e, kC e] = e.1 := by
      unfold kA kB kC
      match e.1, h3 with
      | [a, b, c], _ => rfl
    obtain ⟨b1, b2, b3⟩ := wrd_bounds e.1 H
    obtain ⟨d1, d2, d3⟩ := wrd_bounds e.1 H0
    have hd : kD e = (cnt e.1 H : Int) := by unfold kD; rw [h2]; rfl
    have hE : kE e = wrd e.1 H := by unfold kE; rw [h2]; rfl
    have hlook : ∀ k', lookM (addM es e.1 (kD e) (kE e)) k' = if k' = e.1 then some [(cnt e.1 H0 : Int) + cnt e.1 H, wrd e.1 H0 + wrd e.1 H] else lookM es k' := fun k' => by
      unfold addM
      rw [look_put, hd, hE]
      by_cases ek : k' = e.1
      · rw [if_pos ek, if_pos ek, hs e.1 (by simp)]
        by_cases hz : cnt e.1 H0 = 0
        · rw [if_pos hz]
          have : wrd e.1 H0 = 0 := by rw [hz] at d2; omega
          simp only [Option.getD_none, List.headD_cons, List.tail_cons]
          rw [hz, this, wr64 _ (by omega) (by omega), wr64 _ (by omega) (by omega)]
          rfl
        · rw [if_neg hz]
          simp only [Option.getD_some, List.headD_cons, List.tail_cons]
          rw [wr64 _ (by omega) (by omega), wr64 _ (by omega) (by omega)]
      · rw [if_neg ek, if_neg ek]
    rw [mgF, hkey]
    obtain ⟨g1, g2⟩ := ih (addM es e.1 (kD e) (kE e)) H0 hb (hk.add h3 _ _) (fun k' hk' => by
      rw [hlook, if_neg (fun ek => hn.1 (by rw [← ek]; exact hk'))]
      exact hs k' (List.mem_cons_of_mem _ hk')) (fun x hx => he x (List.mem_cons_of_mem _ hx)) hn.2
    refine ⟨g1, fun k => ?_⟩
    rw [g2, List.map_cons]
    by_cases hm : k ∈ l.map (·.1)
    · rw [if_pos hm, if_pos (List.mem_cons_of_mem _ hm)]
    · rw [if_neg hm, hlook]
      by_cases ek : k = e.1
      · rw [if_pos ek, if_pos (by rw [ek]; exact List.mem_cons_self ..), ek]
      · rw [if_neg ek, if_neg (by rw [List.mem_cons]; exact fun h => h.elim ek hm)]
/-- The rows of one laid onto what another holds. -/
theorem mg_rows {es es' : List KV} {H H' : List Hd} (h : Holds es H) (h' : Holds es' H') (hb : H.length + H'.length ≤ 100000) : Holds (mgF es (sortK es')) (H ++ H') := by
  have hp := sortK_perm es'
  have hk' := h'.1.perm hp.symm
  have hmem : ∀ k, k ∈ (sortK es').map (·.1) ↔ cnt k H' ≠ 0 := fun k => by
    rw [sort_RF h', List.mem_map]
    constructor
    · rintro ⟨e, he, rfl⟩; exact (mem_RF.1 he).1
    · intro hc; exact ⟨(k, [(cnt k H' : Int), wrd k H']), mem_RF.2 ⟨hc, rfl⟩, rfl⟩
  obtain ⟨g1, g2⟩ := mg_holds (H := H') (sortK es') es H h hb (fun e he => by
    refine ⟨hk'.1 e he, ?_⟩
    rw [sort_RF h'] at he
    exact ⟨(mem_RF.1 he).2, (mem_RF.1 he).1⟩) hk'.2
  refine ⟨g1, fun k => ?_⟩
  rw [g2, cnt_append, wrd_append]
  by_cases hz : cnt k H' = 0
  · rw [if_neg (fun hm => (hmem k).1 hm hz), h.2]
    have : wrd k H' = 0 := by
      obtain ⟨b1, b2, _⟩ := wrd_bounds k H'
      rw [hz] at b2; omega
    rw [hz, this, Nat.add_zero, Int.add_zero]
  · rw [if_pos ((hmem k).2 hz), if_neg (by omega)]
    rfl
end Go.Proofs.Ytbjealobiblabaa

namespace Go.Proofs.Ytbjealobiblabaa
open Go Go.RowKit
set_option maxRecDepth 100000
abbrev wM (c0 c1 c2 c3 c4 : List Int) (nx : Nat) : MS := ⟨[rwC c0 c1 c2 c3 c4, (1, some ⟨false, false, .rows [.ints .i64 c0, .ints .i64 c1, .ints .i64 c2, .ints .i64 c3, .ints .i64 c4]⟩)], nx⟩
theorem w_in (c0 c1 c2 c3 c4 : List Int) (n : Nat) : FO_ Try.prog [] Try.f17 (zC 2) [] 99 [0] [.sl false 0 5 0 1 n none, .sl false 1 5 0 1 n none] (wM c0 c1 c2 c3 c4 2) = some (.head (hd Try.f17 0) (zT n 0) (wM c0 c1 c2 c3 c4 2) (conj [!(Int.ofNat n != Int.ofNat n)])) := by kernel_rfl
theorem w_round (c0 c1 c2 c3 c4 : List Int) (n : Nat) (i : Int) : HO_ Try.prog [] Try.f17 (zC 2) [] 99 [1, 0] (hd Try.f17 0) (zT n i) (wM c0 c1 c2 c3 c4 2) = some (.head (hd Try.f17 0) (zT n (up1 i)) (wM c0 c1 c2 c3 c4 2) (conj [decide (i < Int.ofNat n), decide (0 ≤ i), decide (i.toNat < n), decide (iz i < c0.length), decide (iz i < c1.length), decide (iz i < c2.length), decide (0 ≤ i), decide (i.toNat < n), decide (iz i < c0.length), decide (0 ≤ i), decide (i.toNat < n), decide (iz i < c1.length), decide (0 ≤ i), decide (i.toNat < n), decide (iz i < c2.length), !!!(c0.getD (iz i) 0 == c0.getD (iz i) 0 && (c1.getD (iz i) 0 == c1.getD (iz i) 0 && (c2.getD (iz i) 0 == c2.getD (iz i) 0 && true))) || decide (0 ≤ i), !!!(c0.getD (iz i) 0 == c0.getD (iz i) 0 && (c1.getD (iz i) 0 == c1.getD (iz i) 0 && (c2.getD (iz i) 0 == c2.getD (iz i) 0 && true))) || decide (i.toNat < n), !!!(c0.getD (iz i) 0 == c0.getD (iz i) 0 && (c1.getD (iz i) 0 == c1.getD (iz i) 0 && (c2.getD (iz i) 0 == c2.getD (iz i) 0 && true))) || decide (iz i < c3.length), !!!(c0.getD (iz i) 0 == c0.getD (iz i) 0 && (c1.getD (iz i) 0 == c1.getD (iz i) 0 && (c2.getD (iz i) 0 == c2.getD (iz i) 0 && true))) || decide (iz i < c4.length), !!!(c0.getD (iz i) 0 == c0.getD (iz i) 0 && (c1.getD (iz i) 0 == c1.getD (iz i) 0 && (c2.getD (iz i) 0 == c2.getD (iz i) 0 && true))) || decide (0 ≤ i), !!!(c0.getD (iz i) 0 == c0.getD (iz i) 0 && (c1.getD (iz i) 0 == c1.getD (iz i) 0 && (c2.getD (iz i) 0 == c2.getD (iz i) 0 && true))) || decide (i.toNat < n), !!!(c0.getD (iz i) 0 == c0.getD (iz i) 0 && (c1.getD (iz i) 0 == c1.getD (iz i) 0 && (c2.getD (iz i) 0 == c2.getD (iz i) 0 && true))) || decide (iz i < c3.length), !!!(c0.getD (iz i) 0 == c0.getD (iz i) 0 && (c1.getD (iz i) 0 == c1.getD (iz i) 0 && (c2.getD (iz i) 0 == c2.getD (iz i) 0 && true))) || decide (0 ≤ i), !!!(c0.getD (iz i) 0 == c0.getD (iz i) 0 && (c1.getD (iz i) 0 == c1.getD (iz i) 0 && (c2.getD (iz i) 0 == c2.getD (iz i) 0 && true))) || decide (i.toNat < n), !!!(c0.getD (iz i) 0 == c0.getD (iz i) 0 && (c1.getD (iz i) 0 == c1.getD (iz i) 0 && (c2.getD (iz i) 0 == c2.getD (iz i) 0 && true))) || decide (iz i < c4.length), !(bif !(c0.getD (iz i) 0 == c0.getD (iz i) 0 && (c1.getD (iz i) 0 == c1.getD (iz i) 0 && (c2.getD (iz i) 0 == c2.getD (iz i) 0 && true))) then true else !(c3.getD (iz i) 0 == c3.getD (iz i) 0 && (c4.getD (iz i) 0 == c4.getD (iz i) 0 && true)))])) := by kernel_rfl
theorem w_end (c0 c1 c2 c3 c4 : List Int) (n : Nat) (i : Int) : HO_ Try.prog [] Try.f17 (zC 2) [] 99 [0] (hd Try.f17 0) (zT n i) (wM c0 c1 c2 c3 c4 2) = some (.ret (vb true) ⟨[], 99⟩ (conj [!decide (i < Int.ofNat n)])) := by kernel_rfl
theorem w_loop (c0 c1 c2 c3 c4 : List Int) (n : Nat) (hn : n ≤ 4096) (h0 : n ≤ c0.length) (h1 : n ≤ c1.length) (h2 : n ≤ c2.length) (h3 : n ≤ c3.length) (h4 : n ≤ c4.length) : ∀ (j i : Nat), i + j = n → Gives_ Try.prog Try.f17 2 ⟨hd Try.f17 0, zT n (i : Int), wM c0 c1 c2 c3 c4 2⟩ (vb true) ⟨[], 99⟩
  | 0, i, hi => by
    have h := w_end c0 c1 c2 c3 c4 n (i : Int)
    rw [decide_eq_false (show ¬ (i : Int) < Int.ofNat n by show ¬ (i : Int) < (n : Int); omega)] at h
    exact HO_ret env_nil mixedP rfl h rfl
  | j + 1, i, hi => by
    have h := w_round c0 c1 c2 c3 c4 n (i : Int)
    have e1 : ∀ x : Int, (x == x) = true := fun x => beq_self_eq_true x
    rw [e1, e1, e1, e1, e1, decide_eq_true (show (i : Int) < Int.ofNat n by show (i : Int) < (n : Int); omega), iz_nat, Int.toNat_natCast, decide_eq_true (show 0 ≤ (i : Int) by omega), decide_eq_true (show i < n by omega), decide_eq_true (show i < c0.length by omega), decide_eq_true (show i < c1.length by omega), decide_eq_true (show i < c2.length by omega), decide_eq_true (show i < c3.length by omega), decide_eq_true (show i < c4.length by omega), up1_nat (by omega)] at h
    exact Goes.gives (HO_head env_nil mixedP rfl h rfl) (w_loop c0 c1 c2 c3 c4 n hn h0 h1 h2 h3 h4 j (i + 1) (by omega))
/-- Rows compared with like rows. -/
def e_sameC : Spec := fun m args => match args with
  | [.sl _ b 5 0 1 n _, .sl _ b' 5 0 1 n' _] => match look m.bl b, look m.bl b' with
    | some ⟨_, _, .rows [.ints .i64 c0, .ints .i64 c1, .ints .i64 c2, .ints .i64 c3, .ints .i64 c4]⟩, some ⟨_, _, .rows [.ints .i64 d0, .ints .i64 d1, .ints .i64 d2, .ints .i64 d3, .ints .i64 d4]⟩ =>
      some (vb true, none, [Nat.ble n 4096, decide (n = n'), decide (c0 = d0), decide (c1 = d1), decide (c2 = d2), decide (c3 = d3), decide (c4 = d4), Nat.ble n c0.length, Nat.ble n c1.length, Nat.ble n c2.length, Nat.ble n c3.length, Nat.ble n c4.length])
    | _, _ => none
  | _ => none
theorem ok_sameC : SpecOk Try.prog 17 e_sameC := fun m args v mo bs h hb => by
  unfold e_sameC at h
  split at h
  · rename_i nn b n c nn' b' n' c'
    split at h <;> cases h
    rename_i _ _ _ c0 c1 c2 c3 c4 _ _ d0 d1 d2 d3 d4 hl hl'
    simp only [List.all_cons, List.all_nil, id, Bool.and_true, Bool.and_eq_true, decide_eq_true_eq] at hb
    obtain ⟨h1, h2, f0, f1, f2, f3, f4, g0, g1, g2, g3, g4⟩ := hb
    subst h2 f0 f1 f2 f3 f4
    have hi := w_in c0 c1 c2 c3 c4 n
    rw [bne_self_eq_false] at hi
    refine lift_pure (m1 := wM c0 c1 c2 c3 c4 2) (args1 := [.sl false 0 5 0 1 n none, .sl false 1 5 0 1 n none]) (fsound (c := bodyOf Try.f17) (fun xs w => Try.call17 xs w) Try.func17 rfl (Goes.gives (FO_head (f := Try.f17) (c := bodyOf Try.f17) (m := wM c0 c1 c2 c3 c4 2) (cuts := zC 2) env_nil mixedP rfl rfl hi rfl) (w_loop c0 c1 c2 c3 c4 n (Nat.le_of_ble_eq_true h1) (Nat.le_of_ble_eq_true g0) (Nat.le_of_ble_eq_true g1) (Nat.le_of_ble_eq_true g2) (Nat.le_of_ble_eq_true g3) (Nat.le_of_ble_eq_true g4) n 0 (by omega)))) rfl rfl fun ρ w xs hm hx => ?_
    simp only [AV.rels] at hx
    obtain ⟨z, zs, rfl, hz, y, ys, rfl, hy, rfl⟩ := hx
    simp only [AV.rel] at hz hy
    obtain ⟨_, A, cc, rfl, hnc, hA, _, _⟩ := hz
    obtain ⟨_, A', cc', rfl, hnc', hA', _, _⟩ := hy
    let ρ1 : Rho := fun j => match j with
      | 0 => ⟨(ρ b).b, (ρ b).o, cc * (1 * 5), 0⟩
      | _ => ⟨(ρ b').b, (ρ b').o, cc' * (1 * 5), 0⟩
    have v0 := hm.view hl rfl ρ1 2
    have v1 := hm.view hl' rfl ρ1 2
    refine ⟨ρ1, mrel_two ⟨v0.lt, v0.rel, (fun h => by cases h), (fun h => by cases h), fun q h => by cases h⟩ ⟨v1.lt, v1.rel, (fun h => by cases h), (fun h => by cases h), fun q h => by cases h⟩ rfl rfl, ?_⟩
    simp only [AV.rels]
    refine ⟨_, _, rfl, ?_, _, _, rfl, ?_, rfl⟩
    · simp only [AV.rel]
      exact ⟨by show (0 : Nat) < 2; omega, A, cc, rfl, hnc, hA, (fun h => by cases h), by show 0 * 5 + cc * (1 * 5) ≤ cc * (1 * 5); omega⟩
    · simp only [AV.rel]
      exact ⟨by show (1 : Nat) < 2; omega, A', cc', rfl, hnc', hA', (fun h => by cases h), by show 0 * 5 + cc' * (1 * 5) ≤ cc' * (1 * 5); omega⟩
  · cases h
end Go.Proofs.Ytbjealobiblabaa

namespace Go.Proofs.Ytbjealobiblabaa
open Go Go.ChangeShapes Go.WideShapes Go.ChangeAt Go.RowKit Go.Deep
set_option maxRecDepth 100000
-- A slice of nothing
section
variable {P : Program}
/-- A block of nothing, ahead. -/
theorem void_in {f : FuncId} {m m' : MS} {args args1 : List AV} {v : AV} {b : ABlk} {i : LI} (hv : b.void) (hnn : b.cont.nested = false) (hx : ∀ (ρ : Rho) (xs : List Value), AV.rels ρ m.nx args xs → AV.rels (ρ.new m.nx i) (m.nx + 1) args1 xs) (h : FSound P f ⟨(m.nx, some b) :: m.bl, m.nx + 1⟩ args1 v m') (hn : m.nx ≤ m'.nx) : FSound P f m args v m' := by
  intro ρ w xs hm hr
  have hext : ∀ l, l < m.nx → (ρ.new m.nx i) l = ρ l := fun l hl => by unfold Rho.new; rw [if_neg (by omega)]
  have key : ∀ l b', look ((m.nx, some b) :: m.bl) l = some b' → (l = m.nx ∧ b' = b) ∨ (l < m.nx ∧ look m.bl l = some b') := fun l b' hl => by
    rw [look_cons] at hl
    split at hl
    · rename_i e; cases hl; exact .inl ⟨e.symm, rfl⟩
    · exact .inr ⟨(hm.blk l b' hl).1, hl⟩
  have hw : b.wr = false := hv.1
  have hm1 : MRel (ρ.new m.nx i) ⟨(m.nx, some b) :: m.bl, m.nx + 1⟩ w := by
    refine ⟨fun l b' hl => ?_, fun l b1 l' b2 h1 h2 hw1 hne hnv => ?_, fun l b1 l' b2 h1 h2 hw1 hn2 => ?_⟩
    · rcases key l b' hl with ⟨rfl, rfl⟩ | ⟨hlt, hl⟩
      · exact ⟨Nat.lt_succ_self _, ABlk.ok.any hv _⟩
      · refine ⟨Nat.lt_succ_of_lt hlt, ?_⟩
        rw [hext l hlt]
        exact ((hm.blk l b' hl).2).ext hext (Nat.le_succ _) (Nat.le_refl _) rfl (fun _ _ _ => rfl)
    · rcases key l b1 h1 with ⟨rfl, rfl⟩ | ⟨hlt, hl⟩
      · rw [hw] at hw1; cases hw1
      · rcases key l' b2 h2 with ⟨rfl, rfl⟩ | ⟨hlt', hl'⟩
        · exact absurd hv hnv
        · rw [hext l hlt, hext l' hlt']; exact hm.apart l b1 l' b2 hl hl' hw1 hne hnv
    · rcases key l b1 h1 with ⟨rfl, rfl⟩ | ⟨hlt, hl⟩
      · rw [hw] at hw1; cases hw1
      · rcases key l' b2 h2 with ⟨rfl, rfl⟩ | ⟨hlt', hl'⟩
        · rw [hnn] at hn2; cases hn2
        · rw [hext l hlt, hext l' hlt']; exact hm.deep l b1 l' b2 hl hl' hw1 hn2
  refine Went.mono (h (ρ.new m.nx i) w xs hm1 (hx ρ xs hr)) fun x w' ⟨ρ2, h1, h2, mv⟩ => ⟨ρ2, h1, h2, ⟨fun l hl => (mv.ext l (Nat.lt_succ_of_lt hl)).trans (hext l hl), hn, mv.os, mv.tape, mv.output, mv.size, fun g hg hng => mv.keep g hg fun ⟨l, b', e1, e2, e3⟩ => hng ?_, fun g hg => ?_⟩⟩
  · rcases key l b' e1 with ⟨rfl, rfl⟩ | ⟨hlt, hl⟩
    · rw [hw] at e2; cases e2
    · exact ⟨l, b', hl, e2, by rw [← hext l hlt]; exact e3⟩
  · rcases mv.fresh g hg with ⟨l, b', e1, e2, e3⟩ | hge
    · rcases key l b' e1 with ⟨rfl, rfl⟩ | ⟨hlt, hl⟩
      · rw [hw] at e2; cases e2
      · exact .inl ⟨l, b', hl, e2, by rw [← hext l hlt]; exact e3⟩
    · exact .inr hge
end
abbrev vC0 : ABlk := ⟨false, false, hdC [] [] [] [] []⟩
theorem vC0_void : vC0.void := by
  refine ⟨rfl, rfl, (fun q hq => by cases hq), fun r c a ha => ?_⟩
  match c, ha with
  | 0, ha => simp [Cont.at, Col.at] at ha
  | 1, ha => simp [Cont.at, Col.at] at ha
  | 2, ha => simp [Cont.at, Col.at] at ha
  | 3, ha => simp [Cont.at, Col.at] at ha
  | 4, ha => simp [Cont.at, Col.at] at ha
  | c + 5, ha => cases ha
theorem empty_arg {m : MS} {nn : Bool} {l wd s : Nat} (ρ : Rho) (xs : List Value) (h : AV.rels ρ m.nx [.sl nn l wd 0 s 0 (some 0)] xs) : AV.rels (ρ.new m.nx ⟨0, 0, 0, 0⟩) (m.nx + 1) [.sl false m.nx 5 0 1 0 (some 0)] xs := by
  simp only [AV.rels] at h
  obtain ⟨z, zs, rfl, hz, rfl⟩ := h
  simp only [AV.rel] at hz
  obtain ⟨_, A, c, rfl, hnc, hA, _, hc⟩ := hz
  simp only [AV.rels, AV.rel]
  exact ⟨_, _, rfl, ⟨Nat.lt_succ_self _, A, c, rfl, hnc, (fun h => by omega), (fun h => by cases h), hc⟩, rfl⟩
/-- The same of a slice of nothing. -/
def e_ofZ : Spec := fun m args => match args with
  | [.sl _ _ 1 0 5 0 (some 0)] => some (.ptr (m.nx + 2) 1 0 0, some ⟨(m.nx + 1, some ⟨true, false, .obj (.mpo 3 2 [])⟩) :: (m.nx + 2, some ⟨true, false, .cells [.mp (m.nx + 1)]⟩) :: (m.nx, some vC0) :: m.bl, m.nx + 3⟩, [])
  | _ => e_of m args
theorem ok_ofZ : SpecOk Try.prog 11 e_ofZ := fun m args v mo bs h hb => by
  unfold e_ofZ at h
  split at h
  · cases h
    refine void_in (b := vC0) (i := ⟨0, 0, 0, 0⟩) (args1 := [.sl false m.nx 5 0 1 0 (some 0)]) vC0_void rfl (fun ρ xs => empty_arg ρ xs) ?_ (by show m.nx ≤ m.nx + 3; omega)
    have hlk : look ((m.nx, some vC0) :: m.bl) m.nx = some vC0 := by rw [look_cons, if_pos rfl]
    exact ok_of ⟨(m.nx, some vC0) :: m.bl, m.nx + 1⟩ [.sl false m.nx 5 0 1 0 (some 0)] _ _ [Nat.blt m.nx (m.nx + 1), true, true, true, true, true, true] (by
      simp only [e_of, hlk]
      rfl) (by simp [Nat.blt_eq])
  · exact ok_of m _ _ _ _ h hb
def e_rrowsZ : Spec := fun m args => match args with
  | [.sl _ _ 1 0 5 0 (some 0)] => some (.sl false (m.nx + 1) 5 0 1 (RF []).length none, some ⟨(m.nx + 1, some ⟨false, false, .rows (colsF fs5 (RF []))⟩) :: (m.nx, some vC0) :: m.bl, m.nx + 2⟩, [])
  | _ => e_rrows m args
theorem ok_rrowsZ : SpecOk Try.prog 16 e_rrowsZ := fun m args v mo bs h hb => by
  unfold e_rrowsZ at h
  split at h
  · cases h
    refine void_in (b := vC0) (i := ⟨0, 0, 0, 0⟩) (args1 := [.sl false m.nx 5 0 1 0 (some 0)]) vC0_void rfl (fun ρ xs => empty_arg ρ xs) ?_ (by show m.nx ≤ m.nx + 2; omega)
    have hlk : look ((m.nx, some vC0) :: m.bl) m.nx = some vC0 := by rw [look_cons, if_pos rfl]
    exact ok_rrows ⟨(m.nx, some vC0) :: m.bl, m.nx + 1⟩ [.sl false m.nx 5 0 1 0 (some 0)] _ _ [true, true, true, true, true, true] (by
      simp only [e_rrows, hlk]
      rfl) rfl
  · exact ok_rrows m _ _ _ _ h hb
end Go.Proofs.Ytbjealobiblabaa
