/-
  The statements of layer 28 (gate), proved: GateJudges.
-/
import Derived.Test.YtlcaanodbhigkaaArg
import Derived.Test.YtlcaanodbhigkaaGL
import Derived.Test.YtlcaanodbhigkaaAskI
namespace Go.Proofs.Ytlcaanodbhigkaa
open Go Go.ChangeShapes Go.WideShapes Go.ChangeAt Go.RowKit Go.Deep
def askB (us vs zs : List Int) (fs : List Bool) : ABlk := ⟨false, false, .rows [.ints .i64 us, .ints .i64 vs, .ints .i64 zs, .bools fs]⟩
def judTm (l t s k d : Int) (n c : Nat) (i : Int) : List AV := [.agg [vi l, vi t, vi s, vi k, vi d], .sl false 0 4 0 1 n (some c), .ptr 1 1 0 0, .unk, vb false, .ptr 2 1 0 0, .unk, .ptr 3 1 0 0, vi i] ++ List.replicate 154 .unk
def judM (l t s k d T q b T' q' b' : Int) (us vs zs : List Int) (fs : List Bool) : MS :=
  ⟨[(0, some (askB us vs zs fs)), (1, some ⟨true, false, .cells [vi l, vi t, vi s, vi k, vi d]⟩), (2, some ⟨true, false, .cells [vi l, vi t, vi s, vi k, vi d, vi T, vi q, vi b]⟩), (3, some ⟨true, false, .cells [vi l, vi t, vi s, vi k, vi d, vi T', vi q', vi b']⟩)], 4⟩
def judC : List Cut := [(2, [0, 1, 2, 4, 5, 7, 8], [0, 1, 2, 3], 4)]
/-- What is asked of a round's place. -/
def inR (i : Nat) (n : Nat) (us vs zs : List Int) (fs : List Bool) : Bool := bif decide (i < n) then bif decide (i < us.length) then bif decide (i < vs.length) then bif decide (i < zs.length) then bif decide (i < fs.length) then true else false else false else false else false else false
theorem jud_in (l t s k d : Int) (n c : Nat) (us vs zs : List Int) (fs : List Bool) : F_ Try.prog L_haymowlaw28_awake Try.f6 judC [] 99 [.agg [vi l, vi t, vi s, vi k, vi d], .sl false 0 4 0 1 n (some c)] ⟨[(0, some (askB us vs zs fs))], 1⟩ =
    bif decide (60 < (n : Int)) then some (Fin_.ret (vb true) ⟨[], 99⟩ true)
    else bif !haymowref26_Right_0 l t s k d then
      some (Fin_.ret (vb (bif gate_New_0 l t s k d == 0 && (gate_New_1 l t s k d == 0 && (gate_New_2 l t s k d == 0 && (gate_New_3 l t s k d == 0 && (gate_New_4 l t s k d == 0 && true)))) && (gate_New_1 l t s k d == 0 && true && true) then gate_New_5 l t s k d == 42 else false)) ⟨[], 99⟩ true)
    else bif bif gate_New_5 l t s k d != 0 then true else !haymowlaw28_same_0 (gate_New_0 l t s k d) (gate_New_1 l t s k d) (gate_New_2 l t s k d) (gate_New_3 l t s k d) (gate_New_4 l t s k d) (gate_New_1 l t s k d) 0 0 l t s k d t 0 0 then
      some (Fin_.ret (vb false) ⟨[], 99⟩ true)
    else some (Fin_.head (hd Try.f6 0) (judTm l t s k d n c 0)
      ⟨[(0, some (askB us vs zs fs)), (1, some ⟨true, false, .cells [vi l, vi t, vi s, vi k, vi d]⟩), (2, some ⟨true, false, .cells [vi (gate_New_0 l t s k d), vi (gate_New_1 l t s k d), vi (gate_New_2 l t s k d), vi (gate_New_3 l t s k d), vi (gate_New_4 l t s k d), vi (gate_New_1 l t s k d), vi 0, vi 0]⟩), (3, some ⟨true, false, .cells [vi l, vi t, vi s, vi k, vi d, vi t, vi 0, vi 0]⟩)], 4⟩ true) := by kernel_rfl
theorem jud_round (l t s k d T q b : Int) (n c : Nat) (us vs zs : List Int) (fs : List Bool) (i : Int) : H_ Try.prog L_haymowlaw28_awake Try.f6 judC [] 99 (hd Try.f6 0) (judTm l t s k d n c i) (judM l t s k d T q b T q b us vs zs fs) =
    bif decide (i < (n : Int)) then
      bif bif bif gate_Gate_Asks_0 l t s k d T q b (us.getD i.toNat 0) (zs.getD i.toNat 0) == haymowref28_Fits_0 (us.getD i.toNat 0) (zs.getD i.toNat 0) T then true
          else !gate_Gate_Fits_0 l t s k d T q b (vs.getD i.toNat 0) (zs.getD i.toNat 0) == haymowref28_Fits_0 (vs.getD i.toNat 0) (zs.getD i.toNat 0) l then true
        else !gate_Gate_Pressed_0 l t s k d T q b == decide (T < IntKind.i64.wrap (2 * b)) then some (Fin_.ret (vb false) ⟨[], 99⟩ (bif decide (0 ≤ i) then inR i.toNat n us vs zs fs else false))
      else bif fs.getD i.toNat false then
        bif bif !gate_Gate_After_3 l t s k d T q b (vs.getD i.toNat 0) (zs.getD i.toNat 0) == haymowref28_After_3 l t s k d T q b (vs.getD i.toNat 0) (zs.getD i.toNat 0) then true
          else !haymowlaw28_same_0 l t s k d (gate_Gate_After_0 l t s k d T q b (vs.getD i.toNat 0) (zs.getD i.toNat 0)) (gate_Gate_After_1 l t s k d T q b (vs.getD i.toNat 0) (zs.getD i.toNat 0)) (gate_Gate_After_2 l t s k d T q b (vs.getD i.toNat 0) (zs.getD i.toNat 0)) l t s k d (haymowref28_After_0 l t s k d T q b (vs.getD i.toNat 0) (zs.getD i.toNat 0)) (haymowref28_After_1 l t s k d T q b (vs.getD i.toNat 0) (zs.getD i.toNat 0)) (haymowref28_After_2 l t s k d T q b (vs.getD i.toNat 0) (zs.getD i.toNat 0)) then
          some (Fin_.ret (vb false) ⟨[], 99⟩ (bif decide (0 ≤ i) then inR i.toNat n us vs zs fs else false))
        else some (Fin_.head (hd Try.f6 0) (judTm l t s k d n c (IntKind.i64.wrap (i + 1))) (judM l t s k d (gate_Gate_After_0 l t s k d T q b (vs.getD i.toNat 0) (zs.getD i.toNat 0)) (gate_Gate_After_1 l t s k d T q b (vs.getD i.toNat 0) (zs.getD i.toNat 0)) (gate_Gate_After_2 l t s k d T q b (vs.getD i.toNat 0) (zs.getD i.toNat 0)) (haymowref28_After_0 l t s k d T q b (vs.getD i.toNat 0) (zs.getD i.toNat 0)) (haymowref28_After_1 l t s k d T q b (vs.getD i.toNat 0) (zs.getD i.toNat 0)) (haymowref28_After_2 l t s k d T q b (vs.getD i.toNat 0) (zs.getD i.toNat 0)) us vs zs fs) (bif decide (0 ≤ i) then inR i.toNat n us vs zs fs else false))
      else
        bif bif !(gate_Gate_Judge_3 l t s k d T q b (us.getD i.toNat 0) (vs.getD i.toNat 0) (zs.getD i.toNat 0) == haymowref28_Judge_3 l t s k d T q b (us.getD i.toNat 0) (vs.getD i.toNat 0) (zs.getD i.toNat 0) && (gate_Gate_Judge_4 l t s k d T q b (us.getD i.toNat 0) (vs.getD i.toNat 0) (zs.getD i.toNat 0) == haymowref28_Judge_4 l t s k d T q b (us.getD i.toNat 0) (vs.getD i.toNat 0) (zs.getD i.toNat 0) && (gate_Gate_Judge_5 l t s k d T q b (us.getD i.toNat 0) (vs.getD i.toNat 0) (zs.getD i.toNat 0) == haymowref28_Judge_5 l t s k d T q b (us.getD i.toNat 0) (vs.getD i.toNat 0) (zs.getD i.toNat 0) && true))) then true
          else !haymowlaw28_same_0 l t s k d (gate_Gate_Judge_0 l t s k d T q b (us.getD i.toNat 0) (vs.getD i.toNat 0) (zs.getD i.toNat 0)) (gate_Gate_Judge_1 l t s k d T q b (us.getD i.toNat 0) (vs.getD i.toNat 0) (zs.getD i.toNat 0)) (gate_Gate_Judge_2 l t s k d T q b (us.getD i.toNat 0) (vs.getD i.toNat 0) (zs.getD i.toNat 0)) l t s k d (haymowref28_Judge_0 l t s k d T q b (us.getD i.toNat 0) (vs.getD i.toNat 0) (zs.getD i.toNat 0)) (haymowref28_Judge_1 l t s k d T q b (us.getD i.toNat 0) (vs.getD i.toNat 0) (zs.getD i.toNat 0)) (haymowref28_Judge_2 l t s k d T q b (us.getD i.toNat 0) (vs.getD i.toNat 0) (zs.getD i.toNat 0)) then
          some (Fin_.ret (vb false) ⟨[], 99⟩ (bif decide (0 ≤ i) then inR i.toNat n us vs zs fs else false))
        else some (Fin_.head (hd Try.f6 0) (judTm l t s k d n c (IntKind.i64.wrap (i + 1))) (judM l t s k d (gate_Gate_Judge_0 l t s k d T q b (us.getD i.toNat 0) (vs.getD i.toNat 0) (zs.getD i.toNat 0)) (gate_Gate_Judge_1 l t s k d T q b (us.getD i.toNat 0) (vs.getD i.toNat 0) (zs.getD i.toNat 0)) (gate_Gate_Judge_2 l t s k d T q b (us.getD i.toNat 0) (vs.getD i.toNat 0) (zs.getD i.toNat 0)) (haymowref28_Judge_0 l t s k d T q b (us.getD i.toNat 0) (vs.getD i.toNat 0) (zs.getD i.toNat 0)) (haymowref28_Judge_1 l t s k d T q b (us.getD i.toNat 0) (vs.getD i.toNat 0) (zs.getD i.toNat 0)) (haymowref28_Judge_2 l t s k d T q b (us.getD i.toNat 0) (vs.getD i.toNat 0) (zs.getD i.toNat 0)) us vs zs fs) (bif decide (0 ≤ i) then inR i.toNat n us vs zs fs else false))
    else some (Fin_.ret (vb true) ⟨[], 99⟩ true) := by kernel_rfl
theorem same_self (a b c d e f g h : Int) : haymowlaw28_same_0 a b c d e f g h a b c d e f g h = true := by unfold haymowlaw28_same_0; simp
theorem jud_loop (l t s k d : Int) (hs : Set_ l t d) (n c : Nat) (hn : n ≤ 60) (us vs zs : List Int) (fs : List Bool) (h1 : us.length = n) (h2 : vs.length = n) (h3 : zs.length = n) (h4 : fs.length = n) : ∀ (j i : Nat) (T q b : Int), i + j = n → Gok l d T q b →
    Gives_ Try.prog Try.f6 1 ⟨hd Try.f6 0, judTm l t s k d n c i, judM l t s k d T q b T q b us vs zs fs⟩ (vb true) ⟨[], 99⟩
  | 0, i, T, q, b, hi, hg => by
    refine H_ret (cuts := judC) (ns := []) (top := 99) hE_haymowlaw28_awake mixed rfl ?_
    rw [jud_round, show decide ((i : Int) < (n : Int)) = false by simp; omega]
    rfl
  | j + 1, i, T, q, b, hi, hg => by
    have hR : inR (i : Int).toNat n us vs zs fs = true := by
      unfold inR
      simp only [Int.toNat_natCast]
      rw [decide_eq_true (show i < n by omega), decide_eq_true (show i < us.length by omega), decide_eq_true (show i < vs.length by omega), decide_eq_true (show i < zs.length by omega), decide_eq_true (show i < fs.length by omega)]
      rfl
    have hl := hs.l2
    have hl1 := hs.l1
    have ha := hg.a2
    have hw : IntKind.i64.wrap ((i : Int) + 1) = ((i + 1 : Nat) : Int) := by rw [wr _ (by omega) (by omega)]; omega
    obtain ⟨p1, p2⟩ := pressed_eq (s := s) (k := k) hs hg
    have C1 : (bif bif gate_Gate_Asks_0 l t s k d T q b (us.getD (i : Int).toNat 0) (zs.getD (i : Int).toNat 0) == haymowref28_Fits_0 (us.getD (i : Int).toNat 0) (zs.getD (i : Int).toNat 0) T then true
          else !gate_Gate_Fits_0 l t s k d T q b (vs.getD (i : Int).toNat 0) (zs.getD (i : Int).toNat 0) == haymowref28_Fits_0 (vs.getD (i : Int).toNat 0) (zs.getD (i : Int).toNat 0) l then true
        else !gate_Gate_Pressed_0 l t s k d T q b == decide (T < IntKind.i64.wrap (2 * b))) = false := by
      rw [fits_eq _ _ T hg.a1 (by omega), fits_eq _ _ l (by omega) hl, p1, p2]
      unfold gate_Gate_Asks_0 gate_Gate_Fits_0
      cases gate_over_0 (us.getD (i : Int).toNat 0) (zs.getD (i : Int).toNat 0) T <;> cases gate_over_0 (vs.getD (i : Int).toNat 0) (zs.getD (i : Int).toNat 0) l <;> simp
    cases hf : fs.getD (i : Int).toNat false with
    | true =>
      obtain ⟨e0, e1, e2, e3, hgo⟩ := after_same (s := s) (k := k) hs hg (vs.getD (i : Int).toNat 0) (zs.getD (i : Int).toNat 0)
      refine Goes.gives (H_head (f := Try.f6) (cuts := judC) (ns := []) (top := 99) hE_haymowlaw28_awake mixed rfl ?_) (jud_loop l t s k d hs n c hn us vs zs fs h1 h2 h3 h4 j (i + 1) _ _ _ (by omega) hgo)
      rw [jud_round, C1, hf, e0, e1, e2, e3, same_self, hR, hw, show decide ((i : Int) < (n : Int)) = true by simp; omega, show decide (0 ≤ (i : Int)) = true by simp]
      cases gate_Gate_After_3 l t s k d T q b (vs.getD (i : Int).toNat 0) (zs.getD (i : Int).toNat 0) <;> rfl
    | false =>
      obtain ⟨e0, e1, e2, e3, e4, e5, hgo⟩ := judge_same (s := s) (k := k) hs hg (us.getD (i : Int).toNat 0) (vs.getD (i : Int).toNat 0) (zs.getD (i : Int).toNat 0)
      refine Goes.gives (H_head (f := Try.f6) (cuts := judC) (ns := []) (top := 99) hE_haymowlaw28_awake mixed rfl ?_) (jud_loop l t s k d hs n c hn us vs zs fs h1 h2 h3 h4 j (i + 1) _ _ _ (by omega) hgo)
      rw [jud_round, C1, hf, e0, e1, e2, e3, e4, e5, same_self, hR, hw, show decide ((i : Int) < (n : Int)) = true by simp; omega, show decide (0 ≤ (i : Int)) = true by simp]
      generalize gate_Gate_Judge_3 l t s k d T q b (us.getD (i : Int).toNat 0) (vs.getD (i : Int).toNat 0) (zs.getD (i : Int).toNat 0) = x
      generalize gate_Gate_Judge_4 l t s k d T q b (us.getD (i : Int).toNat 0) (vs.getD (i : Int).toNat 0) (zs.getD (i : Int).toNat 0) = y
      generalize gate_Gate_Judge_5 l t s k d T q b (us.getD (i : Int).toNat 0) (vs.getD (i : Int).toNat 0) (zs.getD (i : Int).toNat 0) = z
      cases x <;> cases y <;> cases z <;> rfl
theorem jud_all (l t s k d : Int) (A : Option Addr) (n c : Nat) (w : World) (hz : AskAt w w.heap.size A n) (hnc : n ≤ c) (hc : c ≤ maxLen) : Gives 6 #[.agg #[.int .i64 l, .int .i64 t, .int .i64 s, .int .i64 k, .int .i64 d], .slice A n c] w (.bool true) := by
  unfold maxLen at hc
  -- the requests, column by column
  have hL : ∃ (us vs zs : List Int) (fs : List Bool) (i : LI), us.length = n ∧ vs.length = n ∧ zs.length = n ∧ fs.length = n ∧ InB w A n (.rows [.ints .i64 us, .ints .i64 vs, .ints .i64 zs, .bools fs]) i := by
    by_cases hn : 0 < n
    · obtain ⟨b, o, e, hb, hall⟩ := hz hn
      obtain ⟨xs, hl, hx⟩ := lists_of (α := Int × Int × Int × Bool) (0, 0, 0, false) (p := fun j x => w.cell? ⟨b, o + j * 4, none⟩ = some (.int .i64 x.1) ∧ w.cell? ⟨b, o + j * 4 + 1, none⟩ = some (.int .i64 x.2.1) ∧ w.cell? ⟨b, o + j * 4 + 2, none⟩ = some (.int .i64 x.2.2.1) ∧ w.cell? ⟨b, o + j * 4 + 3, none⟩ = some (.bool x.2.2.2)) n
        (fun j hj => by obtain ⟨u, v, z, f, h⟩ := hall j hj; exact ⟨(u, v, z, f), h⟩)
      obtain ⟨i, hi⟩ := in_rows (w := w) (A := A) (n := n) (cs := [.ints .i64 (xs.map (·.1)), .ints .i64 (xs.map (·.2.1)), .ints .i64 (xs.map (·.2.2.1)), .bools (xs.map (·.2.2.2))]) (fun h => by omega)
        (fun _ => ⟨b, o, e, hb, fun c cl r v hc hv => by
          match c, hc with
          | 0, hc =>
            cases hc
            simp only [Col.at, List.length_map, Prod.mk.injEq, AV.val.injEq, decide_eq_true_eq] at hv
            obtain ⟨rfl, hr⟩ := hv
            have := (hx r (by omega)).1
            simpa [List.getD_eq_getElem?_getD, List.getElem?_eq_getElem hr] using this
          | 1, hc =>
            cases hc
            simp only [Col.at, List.length_map, Prod.mk.injEq, AV.val.injEq, decide_eq_true_eq] at hv
            obtain ⟨rfl, hr⟩ := hv
            have := (hx r (by omega)).2.1
            simpa [List.getD_eq_getElem?_getD, List.getElem?_eq_getElem hr, Nat.add_assoc] using this
          | 2, hc =>
            cases hc
            simp only [Col.at, List.length_map, Prod.mk.injEq, AV.val.injEq, decide_eq_true_eq] at hv
            obtain ⟨rfl, hr⟩ := hv
            have := (hx r (by omega)).2.2.1
            simpa [List.getD_eq_getElem?_getD, List.getElem?_eq_getElem hr, Nat.add_assoc] using this
          | 3, hc =>
            cases hc
            simp only [Col.at, List.length_map, Prod.mk.injEq, AV.val.injEq, decide_eq_true_eq] at hv
            obtain ⟨rfl, hr⟩ := hv
            have := (hx r (by omega)).2.2.2
            simpa [List.getD_eq_getElem?_getD, List.getElem?_eq_getElem hr, Nat.add_assoc] using this
          | c + 4, hc => simp at hc⟩)
      exact ⟨_, _, _, _, i, by simp [hl], by simp [hl], by simp [hl], by simp [hl], hi⟩
    · have h0 : n = 0 := by omega
      obtain ⟨i, hi⟩ := in_rows (w := w) (A := A) (n := n) (cs := [.ints .i64 [], .ints .i64 [], .ints .i64 [], .bools []]) (fun _ c cl r hc => by
        match c, hc with
        | 0, hc => cases hc; rfl
        | 1, hc => cases hc; rfl
        | 2, hc => cases hc; rfl
        | 3, hc => cases hc; rfl
        | c + 4, hc => simp at hc) (fun h => absurd h hn)
      exact ⟨[], [], [], [], i, by simp [h0], by simp [h0], by simp [h0], by simp [h0], hi⟩
  obtain ⟨us, vs, zs, fs, i, h1, h2, h3, h4, hin⟩ := hL
  have hm : MRel (fun _ => i) ⟨[(0, some (askB us vs zs fs))], 1⟩ w := mrel_one (hin.ok _ _)
  have hx : AV.rels (fun _ => i) 1 [.agg [vi l, vi t, vi s, vi k, vi d], .sl false 0 4 0 1 n (some c)] [.agg #[.int .i64 l, .int .i64 t, .int .i64 s, .int .i64 k, .int .i64 d], .slice A n c] := by
    simp only [AV.rels]
    refine ⟨_, _, rfl, ?_, _, _, rfl, hin.arg (ρ := fun _ => i) (by omega) hnc 4 1, rfl⟩
    simp only [AV.rel]
    exact ⟨_, rfl, by simp [AV.rels, AV.rel]⟩
  refine gives_true (c := bodyOf Try.f6) (m' := ⟨[], 99⟩) Try.func6 rfl ?_ rfl hm hx
  have hin' := jud_in l t s k d n c us vs zs fs
  by_cases hn : 60 < n
  · refine F_ret hE_haymowlaw28_awake mixed (cuts := judC) (ns := []) (top := 99) rfl rfl ?_
    rw [hin', show decide (60 < (n : Int)) = true by simp; omega]
    rfl
  · have hdn : decide (60 < (n : Int)) = false := by simp; omega
    cases hr : haymowref26_Right_0 l t s k d with
    | false =>
      refine F_ret hE_haymowlaw28_awake mixed (cuts := judC) (ns := []) (top := 99) rfl rfl ?_
      rw [hin', hdn, hr]
      unfold gate_New_0 gate_New_1 gate_New_2 gate_New_3 gate_New_4 gate_New_5
      rw [right_same, hr]
      rfl
    | true =>
      have hs := right_set hr
      have h := F_head (f := Try.f6) (c := bodyOf Try.f6) (cuts := judC) (ns := []) (top := 99) (args := [.agg [vi l, vi t, vi s, vi k, vi d], .sl false 0 4 0 1 n (some c)]) (m := ⟨[(0, some (askB us vs zs fs))], 1⟩)
        (todo := hd Try.f6 0) (tm := judTm l t s k d n c 0) (m' := judM l t s k d t 0 0 t 0 0 us vs zs fs) hE_haymowlaw28_awake mixed rfl rfl (by
          rw [hin', hdn, hr]
          unfold gate_New_0 gate_New_1 gate_New_2 gate_New_3 gate_New_4 gate_New_5
          rw [right_same, hr]
          simp only [Bool.not_true, cond_false]
          rw [same_self]
          rfl)
      exact Goes.gives h (jud_loop l t s k d hs n c (by omega) us vs zs fs h1 h2 h3 h4 n 0 t 0 0 (by omega) ⟨hs.t1, hs.t2, by omega, hs.d1, by omega, by have := hs.l1; omega⟩)

set_option maxRecDepth 100000 in
theorem judges_lifted (os : Os) (started : os.Started) (H : Type) (enc : TypeId × Value → H) :
    ReturnsInHanded {} Try.checked os 6 .any (Rows.gateJudgesSpec.pre6 enc Try.prog Try.f6 Rows.gateJudgesRow.domain false) (Rows.gateJudgesSpec.post enc Try.prog Try.f6 false true false false) := by
  refine returnsInHanded_of_change (C := Try.checked) Try.own started (by kernel_rfl) Try.func6
    (ChangeSpec.witness6 (enc := enc) (C := Try.checked) false ⟨#[], #[.agg #[.int .i64 0, .int .i64 0, .int .i64 0, .int .i64 0, .int .i64 0], .slice none 0 0], []⟩ 8 (by kernel_rfl) (by kernel_rfl) (by kernel_rfl) (by kernel_rfl)) ?_
  intro W base args ds gs before hval0 hW hcnd hsized
  have hval : ∀ (j : Nat) t v, Try.f6.params[j]? = some t → args[j]? = some v → Value.okWide Try.prog W .any base t v := hval0
  have hW' := hW
  obtain ⟨p, q, hA0, hV, rfl, hfz, hnd⟩ := hW
  have hA : DataW.TrodAll enc Try.prog W 0 (fun _ => true) true Try.f6.params.toList args.toList ds p := hA0
  rw [Try.params6] at hA hval
  obtain ⟨v0, v1, d0, d1, p0, p1, rfl, rfl, rfl, h0, h1⟩ := trodAll_two hA
  obtain ⟨l0_, rfl, hl0_, hg0_⟩ := open_struct Try.underlying23 (by kernel_rfl) (by kernel_rfl) (hval 0 _ v0 rfl rfl) h0
  obtain ⟨c0_0, c0_1, c0_2, c0_3, c0_4, rfl⟩ := list5 hl0_
  obtain ⟨l, rfl, wl⟩ := field_int Try.underlying3 (hg0_ 0 _ _ rfl rfl)
  obtain ⟨t, rfl, wt⟩ := field_int Try.underlying3 (hg0_ 1 _ _ rfl rfl)
  obtain ⟨s, rfl, ws⟩ := field_int Try.underlying3 (hg0_ 2 _ _ rfl rfl)
  obtain ⟨k, rfl, wk⟩ := field_int Try.underlying3 (hg0_ 3 _ _ rfl rfl)
  obtain ⟨d, rfl, wd⟩ := field_int Try.underlying3 (hg0_ 4 _ _ rfl rfl)
  obtain ⟨A, n, c, rfl, hnc, hc, hz⟩ := open_asks (hval 1 _ v1 rfl rfl) h1
  refine Gives.use (jud_all l t s k d A n c W hz hnc hc) fun W' hb => ?_
  exact ⟨_, rfl, law_post Try.laidOut (by kernel_rfl) (by kernel_rfl) Try.underlying4 rfl hW' ⟨rfl, rfl, rfl⟩ hb⟩
theorem judges_holds : Rows.GateJudgesSaid :=
  OpenClaim.holds_of_wide 6 Try.f6 rfl rfl rfl rfl rfl rfl rfl ⟨rfl, rfl, rfl, rfl, rfl⟩ rfl rfl rfl rfl rfl (by kernel_rfl) Try.func6 (by kernel_rfl)
    (of_decide_eq_true (by kernel_rfl)) (by unfold Func.isWrapper; first | (rw [if_pos (by decide +kernel)]; kernel_rfl) | (rw [if_neg (by decide +kernel)]; exact ⟨rfl, rfl⟩))
    (fun os started H enc _ => judges_lifted os started H enc)
end Go.Proofs.Ytlcaanodbhigkaa
