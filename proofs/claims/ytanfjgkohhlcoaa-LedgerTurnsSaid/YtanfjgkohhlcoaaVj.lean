/-
  wide.Text and the document's Text: what they come to.
-/
import Derived.Test.YtanfjgkohhlcoaaVi
import Derived.Test.YtanfjgkohhlcoaaExF
namespace Go.Proofs.Ytanfjgkohhlcoaa
open Go Go.RowKit
abbrev vtNil : AV := .val (.slice none 0 0)
def vtI (b : AV) (left i : Int) : List AV := [.unk, .ptr 0 1 0 0, .unk, b, .unk, .unk, vu left, .unk, vi i] ++ List.replicate 66 .unk
def vtO (b : AV) : List AV := [.unk, .ptr 0 1 0 0, .unk, b, vb false] ++ List.replicate 70 .unk
def vtR (k : Nat) (i j : Int) : List AV := [.unk, .unk, .unk, .sl true 1 1 0 1 k none, .unk, .unk, .unk, .unk, .unk, vi i, vi j] ++ List.replicate 64 .unk
def vtM0 (a b : Int) : MS := ⟨[(0, some ⟨true, false, .cells [vu a, vu b]⟩)], 1⟩
def vtM (l nx : Nat) (a b : Int) (L : List Int) : MS := ⟨[(0, some ⟨true, false, .cells [vu a, vu b]⟩), (l, some ⟨true, true, .col (.ints .u8 L)⟩)], nx⟩
def vtMR (L : List Int) : MS := ⟨[(1, some ⟨true, true, .col (.ints .u8 L)⟩)], 2⟩
abbrev vtK : Int := 10000000000000000000
def vtZ (a b : Int) : Bool := !(a == 0 && (b == 0 && true))
def vtG (a b left i : Int) : Bool := bif decide (i < 19) then bif decide (0 < left) then true else vtZ a b else false
def vtD (left : Int) : Int := IntKind.u8.wrap (IntKind.u64.wrap (48 + left.tmod 10))
def vtU (a b : Int) : Bool := bif inU a then bif inU b then true else false else false
def vtC0 : List Cut := [(6, [1, 3, 6, 8], [0], 1)]
def vtCA : List Cut := [(6, [1, 3, 6, 8], [0, 2], 3), (2, [1, 3, 4], [0], 1)]
def vtC1 : List Cut := [(6, [1, 3, 6, 8], [0, 3], 4), (2, [1, 3, 4], [0, 1], 2)]
def vtC2 : List Cut := [(6, [1, 3, 6, 8], [0, 1], 2), (2, [3, 9, 10], [1], 2)]
def vtCR : List Cut := [(2, [3, 9, 10], [1], 2)]
theorem vt_in (a b : Int) : F_ Try.prog L_w Try.f22 vtC0 [] 99 [.agg [vu a, vu b]] noMem = some (Fin_.head (hd Try.f22 1) (vtI vtNil (wLft a b vtK) 0) (vtM0 (qH a b vtK) (qL a b vtK)) (vtU a b)) := by kernel_rfl
theorem vt_nil (a b left i : Int) : H_ Try.prog L_w Try.f22 vtCA [] 99 (hd Try.f22 1) (vtI vtNil left i) (vtM0 a b) =
    bif vtG a b left i then some (Fin_.head (hd Try.f22 1) (vtI (.sl true 2 1 0 1 1 none) (IntKind.u64.wrap (left.tdiv 10)) (IntKind.i64.wrap (i + 1))) (vtM 2 3 a b [vtD left]) true)
    else some (Fin_.head (hd Try.f22 0) (vtO vtNil) (vtM0 a b) true) := by kernel_rfl
theorem vt_out0 : H_ Try.prog L_w Try.f22 vtC0 [] 99 (hd Try.f22 0) (vtO vtNil) (vtM0 0 0) = some (Fin_.ret (vs ⟨#[48]⟩) ⟨[], 99⟩ true) := by kernel_rfl
theorem vt_app (a b left i : Int) (k : Nat) (L : List Int) : H_ Try.prog L_w Try.f22 vtC1 [] 99 (hd Try.f22 1) (vtI (.sl true 1 1 0 1 k none) left i) (vtM 1 2 a b L) =
    bif vtG a b left i then some (Fin_.head (hd Try.f22 1) (vtI (.sl true 3 1 0 1 (k + 1) none) (IntKind.u64.wrap (left.tdiv 10)) (IntKind.i64.wrap (i + 1))) (vtM 3 4 a b (L.take k ++ [vtD left])) (bif decide (0 < k) then bif decide ((k + 1) * 1 ≤ 140737488355328) then bif decide (k ≤ L.length) then true else false else false else false))
    else some (Fin_.head (hd Try.f22 0) (vtO (.sl true 1 1 0 1 k none)) (vtM 1 2 a b L) true) := by kernel_rfl
theorem vt_out (a b : Int) (k : Nat) (L : List Int) : H_ Try.prog L_w Try.f22 vtC2 [] 99 (hd Try.f22 0) (vtO (.sl true 1 1 0 1 k none)) (vtM 1 2 a b L) =
    bif vtZ a b then some (Fin_.head (hd Try.f22 1) (vtI (.sl true 1 1 0 1 k none) (wLft a b vtK) 0) (vtM 1 2 (qH a b vtK) (qL a b vtK) L) (vtU a b))
    else bif Int.ofNat k == 0 then some (Fin_.ret (vs ⟨#[48]⟩) ⟨[], 99⟩ true)
    else some (Fin_.head (hd Try.f22 2) (vtR k 0 (IntKind.i64.wrap (Int.ofNat k - 1))) (vtMR L) true) := by kernel_rfl
def vtS (L : List Int) (i j : Int) : List Int := (L.set i.toNat (L.getD j.toNat 0)).set j.toNat (L.getD i.toNat 0)
def vtB (L : List Int) (k : Nat) (i j : Int) : Bool := bif decide (0 ≤ j) then bif decide (j.toNat < k) then bif decide (j.toNat < L.length) then bif decide (0 ≤ i) then bif decide (i.toNat < k) then bif decide (i.toNat < L.length) then
  bif decide (0 ≤ i) then bif decide (i.toNat < k) then bif decide (i.toNat < L.length) then bif decide (0 ≤ j) then bif decide (j.toNat < k) then bif decide (j.toNat < (L.set i.toNat (L.getD j.toNat 0)).length) then true else false else false else false else false else false else false else false else false else false else false else false else false
theorem vt_rev (i j : Int) (k : Nat) (L : List Int) : H_ Try.prog L_w Try.f22 vtCR [] 99 (hd Try.f22 2) (vtR k i j) (vtMR L) =
    bif decide (i < j) then some (Fin_.head (hd Try.f22 2) (vtR k (IntKind.i64.wrap (i + 1)) (IntKind.i64.wrap (j - 1))) (vtMR (vtS L i j)) (vtB L k i j))
    else some (Fin_.ret (vs (strOf ((L.drop 0).take k))) ⟨[], 99⟩ (bif decide (0 + k ≤ L.length) then true else false)) := by kernel_rfl
-- the turn
theorem vtB_ok {L : List Int} {k i j : Nat} (hi : i < k) (hj : j < k) (hL : L.length = k) : vtB L k (i : Int) (j : Int) = true := by
  unfold vtB
  simp only [Int.toNat_natCast, List.length_set]
  rw [hL, decide_eq_true hi, decide_eq_true hj, decide_eq_true (show (0 : Int) ≤ i by omega), decide_eq_true (show (0 : Int) ≤ j by omega)]
  rfl
theorem vt_turn (k : Nat) (hk : k ≤ 1000) : ∀ (n : Nat) (A X B : List Int), X.length ≤ n → A.length = B.length → (A ++ (X ++ B)).length = k →
    Gives_ Try.prog Try.f22 0 ⟨hd Try.f22 2, vtR k (A.length : Int) ((A.length : Int) + X.length - 1), vtMR (A ++ (X ++ B))⟩ (vs (strOf (A ++ (X.reverse ++ B)))) ⟨[], 99⟩ := by
  have stop : ∀ (A X B : List Int), X.length ≤ 1 → (A ++ (X ++ B)).length = k → Gives_ Try.prog Try.f22 0 ⟨hd Try.f22 2, vtR k (A.length : Int) ((A.length : Int) + X.length - 1), vtMR (A ++ (X ++ B))⟩ (vs (strOf (A ++ (X.reverse ++ B)))) ⟨[], 99⟩ := by
    intro A X B hX hl
    refine H_ret (cuts := vtCR) (ns := []) (top := 99) hE_w mixed rfl ?_
    rw [vt_rev, decide_eq_false (show ¬ (A.length : Int) < (A.length : Int) + X.length - 1 by omega), List.drop_zero, List.take_of_length_le (by omega), decide_eq_true (show 0 + k ≤ (A ++ (X ++ B)).length by omega)]
    have hr : X.reverse = X := by
      match X, hX with
      | [], _ => rfl
      | [x], _ => rfl
      | _ :: _ :: _, h => simp at h
    rw [hr]
    rfl
  intro n
  induction n with
  | zero => intro A X B hX _ hl; exact stop A X B (by omega) hl
  | succ n ih =>
    intro A X B hX hAB hl
    by_cases h1 : X.length ≤ 1
    · exact stop A X B h1 hl
    · obtain ⟨x, X', rfl⟩ : ∃ x X', X = x :: X' := by
        cases X with
        | nil => simp at h1
        | cons x X' => exact ⟨x, X', rfl⟩
      obtain ⟨Y, z, rfl⟩ : ∃ Y z, X' = Y ++ [z] := by
        have hne : X' ≠ [] := by intro e; subst e; simp at h1
        exact ⟨X'.dropLast, X'.getLast hne, (List.dropLast_concat_getLast hne).symm⟩
      have hlen : A.length + Y.length + 2 + B.length = k := by simp at hl; omega
      have e1 : A ++ ((x :: (Y ++ [z])) ++ B) = A ++ x :: (Y ++ z :: B) := by simp
      have e2 : A ++ ((x :: (Y ++ [z])).reverse ++ B) = (A ++ [z]) ++ (Y.reverse ++ (x :: B)) := by simp
      have e3 : ((x :: (Y ++ [z])).length : Int) = Y.length + 2 := by simp; omega
      have hs := swp_mid A B Y x z
      have hi := ih (A ++ [z]) Y (x :: B) (by simp at hX; omega) (by simp; omega) (by simp; omega)
      have e4 : ((A ++ [z]).length : Int) = A.length + 1 := by simp
      rw [e4] at hi
      rw [e1, e2, e3]
      refine Goes.gives (H_head (f := Try.f22) (cuts := vtCR) (ns := []) (top := 99) (todo' := hd Try.f22 2) (tm' := vtR k ((A.length : Int) + 1) ((A.length : Int) + 1 + Y.length - 1)) (m' := vtMR ((A ++ [z]) ++ (Y ++ (x :: B)))) hE_w mixed rfl ?_) hi
      have ej : (A.length : Int) + ((Y.length : Int) + 2) - 1 = ((A.length + Y.length + 1 : Nat) : Int) := by omega
      rw [ej, vt_rev, decide_eq_true (show (A.length : Int) < ((A.length + Y.length + 1 : Nat) : Int) by omega), vtB_ok (by omega) (by omega) (by simp; omega), wk _ (by omega) (by omega), wk _ (by omega) (by omega)]
      have e5 : vtS (A ++ x :: (Y ++ z :: B)) (A.length : Int) ((A.length + Y.length + 1 : Nat) : Int) = (A ++ [z]) ++ (Y ++ (x :: B)) := by
        unfold vtS
        rw [Int.toNat_natCast, Int.toNat_natCast]
        unfold swp at hs
        rw [hs]
        simp
      have e6 : ((A.length + Y.length + 1 : Nat) : Int) - 1 = (A.length : Int) + 1 + Y.length - 1 := by omega
      rw [e5, e6]
      rfl
-- the digits
theorem vtD_eq (l : Nat) (h : l < 18446744073709551616) : vtD (l : Int) = ((48 + l % 10 : Nat) : Int) ∧ IntKind.u64.wrap ((l : Int).tdiv 10) = ((l / 10 : Nat) : Int) := by
  have e1 : (l : Int).tmod 10 = ((l % 10 : Nat) : Int) := by simp [Int.tmod]
  have e2 : (l : Int).tdiv 10 = ((l / 10 : Nat) : Int) := by simp [Int.tdiv]
  unfold vtD
  rw [e1, e2, IntWalk.u64_in _ (by omega), IntWalk.u64_in _ (by omega), wk8 _ (by omega) (by omega)]
  omega
theorem vtZ_zero {a b : Int} (ha : isU a) (hb : isU b) : vtZ a b = !decide (wv a b = 0) := by
  unfold isU at ha hb
  unfold vtZ
  by_cases h : wv a b = 0
  · rw [decide_eq_true h]
    unfold wv at h
    have h1 : a = 0 := by omega
    have h2 : b = 0 := by omega
    subst h1; subst h2; rfl
  · rw [decide_eq_false h]
    unfold wv at h
    by_cases h1 : a = 0
    · have h2 : b ≠ 0 := by omega
      subst h1
      simp [h2]
    · simp [h1]
theorem vtU_ok {a b : Int} (ha : isU a) (hb : isU b) : vtU a b = true := by
  unfold vtU
  rw [inU_of ha, inU_of hb]
  rfl
theorem wv_zero {a b : Int} (ha : isU a) (hb : isU b) (h : wv a b = 0) : a = 0 ∧ b = 0 := by
  unfold isU at ha hb
  unfold wv at h
  omega
theorem lowL_zero (f : Nat) : lowL f 0 = [] := by cases f <;> rfl
theorem lowL_pos {f R : Nat} (h : 0 < R) : lowL (f + 1) R = ((48 + R % 10 : Nat) : Int) :: lowL f (R / 10) := by
  conv => lhs; unfold lowL
  rw [beq_f (show R ≠ 0 by omega)]
  rfl
/-- From the head of the outer loop on, where nothing is left. -/
theorem vt_stop (L : List Int) (h0 : 0 < L.length) (h1 : L.length ≤ 1000) : Gives_ Try.prog Try.f22 0 ⟨hd Try.f22 0, vtO (.sl true 1 1 0 1 L.length none), vtM 1 2 0 0 L⟩ (vs (strOf L.reverse)) ⟨[], 99⟩ := by
  have ht := vt_turn L.length h1 L.length [] L [] (Nat.le_refl _) rfl (by simp)
  simp only [List.nil_append, List.append_nil, List.length_nil] at ht
  refine Goes.gives (H_head (f := Try.f22) (cuts := vtC2) (ns := []) (top := 99) (todo' := hd Try.f22 2) (tm' := vtR L.length ((0 : Nat) : Int) (((0 : Nat) : Int) + L.length - 1)) (m' := vtMR L) hE_w mixed rfl ?_) ht
  rw [vt_out, show vtZ 0 0 = false from rfl, show (Int.ofNat L.length == 0) = false by simp; intro e; subst e; simp at h0, wk _ (by simp; omega) (by simp; omega), show Int.ofNat L.length - 1 = ((0 : Nat) : Int) + L.length - 1 by simp]
  rfl
/-- What the loops come to from some place on. -/
def VtLoop (f : Nat) : Prop := ∀ (R e l : Nat) (a b : Int) (L : List Int), isU a → isU b → e ≤ 19 → l < 10 ^ e → (R : Int) = wv a b * ((10 ^ e : Nat) : Int) + l → R < 10 ^ f → 0 < L.length → L.length + f ≤ 100 →
    Gives_ Try.prog Try.f22 0 ⟨hd Try.f22 1, vtI (.sl true 1 1 0 1 L.length none) (l : Int) ((19 - e : Nat) : Int), vtM 1 2 a b L⟩ (vs (strOf (L ++ lowL f R).reverse)) ⟨[], 99⟩
theorem vtG_eq {a b : Int} {l e : Nat} (ha : isU a) (hb : isU b) (he : e ≤ 19) : vtG a b (l : Int) ((19 - e : Nat) : Int) = (!decide (e = 0) && !(decide (l = 0) && decide (wv a b = 0))) := by
  unfold vtG
  rw [vtZ_zero ha hb]
  by_cases h0 : e = 0
  · subst h0; rfl
  · rw [decide_eq_true (show ((19 - e : Nat) : Int) < 19 by omega), decide_eq_false h0]
    by_cases h1 : l = 0
    · subst h1; rfl
    · rw [decide_eq_true (show (0 : Int) < l by omega), decide_eq_false h1]; rfl
theorem pow_le19 {e : Nat} (h : e ≤ 19) : 10 ^ e ≤ 10000000000000000000 := Nat.le_trans (Nat.pow_le_pow_right (by omega) h) (by decide)
/-- One digit more. -/
theorem vt_step {f : Nat} (ih : VtLoop f) (R e l : Nat) (a b : Int) (L : List Int) (ha : isU a) (hb : isU b) (he : e + 1 ≤ 19) (hl : l < 10 ^ (e + 1)) (hR : (R : Int) = wv a b * ((10 ^ (e + 1) : Nat) : Int) + l) (hf : R < 10 ^ (f + 1)) (hL : 0 < L.length) (hLf : L.length + (f + 1) ≤ 100) (h0 : 0 < R) :
    Gives_ Try.prog Try.f22 0 ⟨hd Try.f22 1, vtI (.sl true 1 1 0 1 L.length none) (l : Int) ((19 - (e + 1) : Nat) : Int), vtM 1 2 a b L⟩ (vs (strOf (L ++ lowL (f + 1) R).reverse)) ⟨[], 99⟩ := by
  have hw := wv_in ha hb
  obtain ⟨V, hV⟩ := Int.eq_ofNat_of_zero_le hw.1
  have hp1 : 10 ^ (e + 1) = 10 ^ e * 10 := Nat.pow_succ ..
  have hp2 : 10 ^ (f + 1) = 10 ^ f * 10 := Nat.pow_succ ..
  have h19 := pow_le19 he
  have hRn : R = V * 10 ^ e * 10 + l := by
    have : (R : Int) = ((V * 10 ^ (e + 1) + l : Nat) : Int) := by rw [hR, hV]; simp
    have h2 : R = V * 10 ^ (e + 1) + l := by exact_mod_cast this
    rw [h2, hp1, Nat.mul_assoc]
  generalize hy : V * 10 ^ e = y at hRn
  obtain ⟨d1, d2⟩ := vtD_eq l (by omega)
  have hR' : ((R / 10 : Nat) : Int) = wv a b * ((10 ^ e : Nat) : Int) + ((l / 10 : Nat) : Int) := by
    rw [hV]
    have : R / 10 = y + l / 10 := by omega
    rw [this, ← hy]
    simp
  have hi := ih (R / 10) e (l / 10) a b (L ++ [((48 + R % 10 : Nat) : Int)]) ha hb (by omega) (by omega) hR' (by omega) (by simp) (by simp; omega)
  rw [lowL_pos h0]
  have e1 : L ++ ((48 + R % 10 : Nat) : Int) :: lowL f (R / 10) = L ++ [((48 + R % 10 : Nat) : Int)] ++ lowL f (R / 10) := by simp
  rw [e1]
  refine Goes.gives (Goes.trans (H_head (f := Try.f22) (cuts := vtC1) (ns := []) (top := 99) (todo' := hd Try.f22 1) (tm' := vtI (.sl true 3 1 0 1 (L ++ [((48 + R % 10 : Nat) : Int)]).length none) ((l / 10 : Nat) : Int) ((19 - e : Nat) : Int)) (m' := vtM 3 4 a b (L ++ [((48 + R % 10 : Nat) : Int)])) hE_w mixed rfl ?_)
    (Goes.ren (nx := 2) (σ := [(0, 0), (1, 3)]) rfl)) hi
  have hm : R % 10 = l % 10 := by omega
  have hg : vtG a b (l : Int) ((19 - (e + 1) : Nat) : Int) = true := by
    rw [vtG_eq ha hb he, decide_eq_false (show ¬ e + 1 = 0 by omega)]
    by_cases hl0 : l = 0
    · have hV0 : ¬ wv a b = 0 := by
        intro e
        rw [hV] at e
        have : V = 0 := by omega
        subst this
        simp at hy
        omega
      rw [decide_eq_false hV0]
      simp
    · rw [decide_eq_false hl0]; rfl
  rw [vt_app, hg, d1, d2, hm, List.take_of_length_le (Nat.le_refl _), decide_eq_true hL, decide_eq_true (show (L.length + 1) * 1 ≤ 140737488355328 by omega), decide_eq_true (Nat.le_refl _), wk _ (by omega) (by omega), show ((19 - (e + 1) : Nat) : Int) + 1 = ((19 - e : Nat) : Int) by omega, List.length_append, List.length_singleton]
  rfl
theorem vt_end {f : Nat} (e l : Nat) (a b : Int) (L : List Int) (ha : isU a) (hb : isU b) (he : e ≤ 19) (hl : l = 0) (hw : wv a b = 0) (hL : 0 < L.length) (hLf : L.length ≤ 1000) :
    Gives_ Try.prog Try.f22 0 ⟨hd Try.f22 1, vtI (.sl true 1 1 0 1 L.length none) (l : Int) ((19 - e : Nat) : Int), vtM 1 2 a b L⟩ (vs (strOf (L ++ lowL f 0).reverse)) ⟨[], 99⟩ := by
  have hg : vtG a b (l : Int) ((19 - e : Nat) : Int) = false := by
    rw [vtG_eq ha hb he, decide_eq_true hl, decide_eq_true hw]; simp
  obtain ⟨h1, h2⟩ := wv_zero ha hb hw
  subst h1; subst h2
  rw [lowL_zero, List.append_nil]
  refine Goes.gives (H_head (f := Try.f22) (cuts := vtC1) (ns := []) (top := 99) (todo' := hd Try.f22 0) (tm' := vtO (.sl true 1 1 0 1 L.length none)) (m' := vtM 1 2 0 0 L) hE_w mixed rfl ?_) (vt_stop L hL hLf)
  rw [vt_app, hg]
  rfl
theorem wLft_eq (a b : Int) : wLft a b vtK = wv a b % vtK := rfl
theorem vt_loop : ∀ f, VtLoop f
  | 0 => by
    intro R e l a b L ha hb he hl hR hf hL hLf
    have hR0 : R = 0 := by simpa using hf
    subst hR0
    have hw := wv_in ha hb
    have hp : 0 < 10 ^ e := Nat.pow_pos (by omega)
    have hm : 0 ≤ wv a b * ((10 ^ e : Nat) : Int) := Int.mul_nonneg hw.1 (by omega)
    refine vt_end e l a b L ha hb he (by omega) ?_ hL (by omega)
    rcases Int.mul_eq_zero.1 (show wv a b * ((10 ^ e : Nat) : Int) = 0 by omega) with h | h
    · exact h
    · omega
  | f + 1 => by
    have ih := vt_loop f
    intro R e l a b L ha hb he hl hR hf hL hLf
    have hw := wv_in ha hb
    by_cases h0 : R = 0
    · subst h0
      have hp : 0 < 10 ^ e := Nat.pow_pos (by omega)
      have hm : 0 ≤ wv a b * ((10 ^ e : Nat) : Int) := Int.mul_nonneg hw.1 (by omega)
      refine vt_end e l a b L ha hb he (by omega) ?_ hL (by omega)
      rcases Int.mul_eq_zero.1 (show wv a b * ((10 ^ e : Nat) : Int) = 0 by omega) with h | h
      · exact h
      · omega
    · cases e with
      | succ e => exact vt_step ih R e l a b L ha hb he hl hR hf hL hLf (by omega)
      | zero =>
        have hl0 : l = 0 := by simpa using hl
        subst hl0
        have hRw : (R : Int) = wv a b := by rw [hR]; simp
        have hne : ¬ wv a b = 0 := by omega
        obtain ⟨q0, q1, q2, q3, q4, q5, q6, q7, q8⟩ := q_in (n := vtK) ha hb (by decide)
        obtain ⟨l', hl'⟩ := Int.eq_ofNat_of_zero_le q6
        have q7' : qR a b vtK < 10000000000000000000 := q7
        have hl19 : l' < 10 ^ (18 + 1) := by have : (10 : Nat) ^ (18 + 1) = 10000000000000000000 := by decide
                                             omega
        have hR2 : (R : Int) = wv (qH a b vtK) (qL a b vtK) * ((10 ^ (18 + 1) : Nat) : Int) + l' := by
          rw [q2, ← hl', hRw, show ((10 ^ (18 + 1) : Nat) : Int) = vtK by decide]
          exact q5.symm
        have hs := vt_step ih R 18 l' (qH a b vtK) (qL a b vtK) L q3 q4 (by omega) hl19 hR2 hf hL hLf (by omega)
        refine Goes.gives (Goes.trans (H_head (f := Try.f22) (cuts := vtC1) (ns := []) (top := 99) (todo' := hd Try.f22 0) (tm' := vtO (.sl true 1 1 0 1 L.length none)) (m' := vtM 1 2 a b L) hE_w mixed rfl ?_)
          (H_head (f := Try.f22) (cuts := vtC2) (ns := []) (top := 99) (todo' := hd Try.f22 1) (tm' := vtI (.sl true 1 1 0 1 L.length none) (l' : Int) ((19 - (18 + 1) : Nat) : Int)) (m' := vtM 1 2 (qH a b vtK) (qL a b vtK) L) hE_w mixed rfl ?_)) hs
        · rw [vt_app, vtG_eq ha hb (by omega)]
          rfl
        · rw [vt_out, vtZ_zero ha hb, decide_eq_false hne, vtU_ok ha hb, wLft_eq]
          have : wv a b % vtK = (l' : Int) := hl'
          rw [this]
          rfl
theorem vt_all (a b : Int) (ha : isU a) (hb : isU b) : Gives_ Try.prog Try.f22 0 ⟨hd Try.f22 1, vtI vtNil (wLft a b vtK) 0, vtM0 (qH a b vtK) (qL a b vtK)⟩ (vs (wtx (wv a b))) ⟨[], 99⟩ := by
  have hw := wv_in ha hb
  obtain ⟨R, hR⟩ := Int.eq_ofNat_of_zero_le hw.1
  obtain ⟨q0, q1, q2, q3, q4, q5, q6, q7, q8⟩ := q_in (n := vtK) ha hb (by decide)
  obtain ⟨l, hl⟩ := Int.eq_ofNat_of_zero_le q6
  obtain ⟨V, hV⟩ := Int.eq_ofNat_of_zero_le q0
  have q7' : qR a b vtK < 10000000000000000000 := q7
  have q5' : qD a b vtK * 10000000000000000000 + qR a b vtK = wv a b := q5
  have hlt : l < 10000000000000000000 := by omega
  have hRV : R = V * 10000000000000000000 + l := by omega
  rw [wLft_eq, show wv a b % vtK = (l : Int) from hl]
  unfold wtx
  rw [hR, Int.toNat_natCast]
  have hR39 : R < 10 ^ (39 + 1) := by
    have : (10 : Nat) ^ (39 + 1) = 10000000000000000000000000000000000000000 := by decide
    omega
  by_cases h0 : R = 0
  · have hl0 : l = 0 := by omega
    have hV0 : V = 0 := by omega
    have hz := wv_zero q3 q4 (by rw [q2, hV, hV0]; rfl)
    rw [hz.1, hz.2]
    subst h0; subst hl0
    refine Goes.gives (H_head (f := Try.f22) (cuts := vtCA) (ns := []) (top := 99) (todo' := hd Try.f22 0) (tm' := vtO vtNil) (m' := vtM0 0 0) hE_w mixed rfl ?_)
      (H_ret (cuts := vtC0) (ns := []) (top := 99) hE_w mixed rfl (by rw [vt_out0]; rfl))
    rw [vt_nil]
    rfl
  · have hp : (10 : Nat) ^ (18 + 1) = 10000000000000000000 := by decide
    have hp2 : (10 : Nat) ^ 18 = 1000000000000000000 := by decide
    have hp3 : (10 : Nat) ^ 39 = 1000000000000000000000000000000000000000 := by decide
    have hi := vt_loop 39 (R / 10) 18 (l / 10) (qH a b vtK) (qL a b vtK) [((48 + R % 10 : Nat) : Int)] q3 q4 (by omega) (by omega) (by rw [q2, hV, hp2]; omega) (by omega) (by simp) (by simp)
    rw [decL_low 40 R [] (by omega) hR39, lowL_pos (by omega), List.append_nil]
    have hg : vtG (qH a b vtK) (qL a b vtK) (l : Int) ((19 - 19 : Nat) : Int) = true := by
      rw [vtG_eq q3 q4 (by omega), q2, hV]
      by_cases hl0 : l = 0
      · rw [decide_eq_false (show ¬ (V : Int) = 0 by omega)]; simp
      · rw [decide_eq_false hl0]; rfl
    obtain ⟨d1, d2⟩ := vtD_eq l (by omega)
    have hm : R % 10 = l % 10 := by omega
    refine Goes.gives (Goes.trans (H_head (f := Try.f22) (cuts := vtCA) (ns := []) (top := 99) (todo' := hd Try.f22 1) (tm' := vtI (.sl true 2 1 0 1 1 none) ((l / 10 : Nat) : Int) ((19 - 18 : Nat) : Int)) (m' := vtM 2 3 (qH a b vtK) (qL a b vtK) [((48 + R % 10 : Nat) : Int)]) hE_w mixed rfl ?_)
      (Goes.ren (nx := 2) (σ := [(0, 0), (1, 2)]) rfl)) hi
    rw [vt_nil, show (0 : Int) = ((19 - 19 : Nat) : Int) from rfl, hg, d1, d2, hm, wk _ (by omega) (by omega)]
    rfl
def e_wtext : Spec := fun _ args => match args with
  | [.agg [.val (.int .u64 a), .val (.int .u64 b)]] => some (vs (wtx (wv a b)), none, [inU a, inU b])
  | _ => none
theorem ok_wtext : SpecOk Try.prog 22 e_wtext := fun m args v mo bs h hb => by
  unfold e_wtext at h
  split at h
  · rename_i a b
    cases h
    simp at hb
    have ha := isU_of hb.1
    have hb' := isU_of hb.2
    have h := vt_in a b
    rw [vtU_ok ha hb'] at h
    exact lift_ground (m1' := ⟨[], 99⟩) (fsound (c := bodyOf Try.f22) (fun xs w => Try.call22 xs w) Try.func22 rfl
      (Goes.gives (F_head (f := Try.f22) (c := bodyOf Try.f22) (cuts := vtC0) (ns := []) (top := 99) hE_w mixed rfl rfl h) (vt_all a b ha hb'))) rfl rfl
  · cases h
-- the document's
def vdC : List Cut := [(2, [1, 3, 4], [0], 1)]
def vdTm (s : ByteArray) (i : Int) : List AV := [.unk, .ptr 0 1 0 0, .unk, vs s, vi i] ++ List.replicate 25 .unk
theorem vd_in (a b : Int) : F_ Try.prog L_w Try.f25 vdC [] 99 [.agg [vu a, vu b]] noMem = some (Fin_.head (hd Try.f25 0) (vdTm ⟨#[]⟩ 0) (vtM0 a b) true) := by kernel_rfl
def vdD (a b : Int) : ByteArray := strOf [IntKind.u8.wrap (IntKind.u64.wrap (48 + qR a b 10))]
theorem vd_round (a b i : Int) (s : ByteArray) : H_ Try.prog L_w Try.f25 vdC [] 99 (hd Try.f25 0) (vdTm s i) (vtM0 a b) =
    bif bif i == 0 then true else vtZ a b then
      some (Fin_.head (hd Try.f25 0) (vdTm (catB (vdD a b) s) (IntKind.i64.wrap (i + 1))) (vtM0 (qH a b 10) (qL a b 10)) (bif inU a then bif inU b then bif Nat.ble (lenB (vdD a b) + lenB s) 9223372036854775807 then true else false else false else false))
    else some (Fin_.ret (vs s) ⟨[], 99⟩ true) := by kernel_rfl
theorem vd_loop : ∀ (f R k : Nat) (a b : Int) (acc : List Int), isU a → isU b → wv a b = R → k + f ≤ 100 → acc.length = k → R < 10 ^ f → (k = 0 → 0 < f) →
    Gives_ Try.prog Try.f25 0 ⟨hd Try.f25 0, vdTm (strOf acc) (k : Int), vtM0 a b⟩ (vs (strOf (bif Nat.beq R 0 && Nat.blt 0 k then acc else decL f R acc))) ⟨[], 99⟩ := by
  intro f
  induction f with
  | zero =>
    intro R k a b acc ha hb hR hkf hl hf hk
    have hk0 : 0 < k := by omega
    have hR0 : R = 0 := by simpa using hf
    subst hR0
    refine H_ret (cuts := vdC) (ns := []) (top := 99) hE_w mixed rfl ?_
    rw [vd_round, show ((k : Int) == 0) = false by simp; omega, vtZ_zero ha hb, decide_eq_true (by rw [hR]; rfl), blt_t hk0]
    rfl
  | succ f ih =>
    intro R k a b acc ha hb hR hkf hl hf hk
    have hp2 : 10 ^ (f + 1) = 10 ^ f * 10 := Nat.pow_succ ..
    by_cases hstop : R = 0 ∧ 0 < k
    · obtain ⟨h0, hk0⟩ := hstop
      subst h0
      refine H_ret (cuts := vdC) (ns := []) (top := 99) hE_w mixed rfl ?_
      rw [vd_round, show ((k : Int) == 0) = false by simp; omega, vtZ_zero ha hb, decide_eq_true (by rw [hR]; rfl), blt_t hk0]
      rfl
    · have hD : (bif Nat.beq R 0 && Nat.blt 0 k then acc else decL (f + 1) R acc) = (bif Nat.beq (R / 10) 0 && Nat.blt 0 (k + 1) then ((48 + R % 10 : Nat) : Int) :: acc else decL f (R / 10) (((48 + R % 10 : Nat) : Int) :: acc)) := by
        have e1 : (Nat.beq R 0 && Nat.blt 0 k) = false := by
          by_cases h : R = 0
          · rw [blt_f (show k ≤ 0 by omega), Bool.and_false]
          · rw [beq_f h]; rfl
        rw [e1, blt_t (show 0 < k + 1 by omega)]
        conv => lhs; unfold decL
        simp only [cond_false, Bool.and_true]
        by_cases h9 : R < 10
        · rw [blt_t h9, show R / 10 = 0 by omega]; rfl
        · rw [blt_f (show 10 ≤ R by omega), beq_f (show R / 10 ≠ 0 by omega)]
      rw [hD]
      obtain ⟨q0, q1, q2, q3, q4, q5, q6, q7, q8⟩ := q_in (n := 10) ha hb (by decide)
      have e2 : qR a b 10 = ((R % 10 : Nat) : Int) := by unfold qR; rw [hR]; omega
      have e3 : qD a b 10 = ((R / 10 : Nat) : Int) := by unfold qD; rw [hR]; omega
      have e4 : vdD a b = strOf [((48 + R % 10 : Nat) : Int)] := by
        unfold vdD
        rw [e2, IntWalk.u64_in _ (by omega), wk8 _ (by omega) (by omega)]
        congr
      refine Goes.gives (H_head (f := Try.f25) (cuts := vdC) (ns := []) (top := 99) (todo' := hd Try.f25 0) (tm' := vdTm (strOf (((48 + R % 10 : Nat) : Int) :: acc)) ((k + 1 : Nat) : Int)) (m' := vtM0 (qH a b 10) (qL a b 10)) hE_w mixed rfl ?_)
        (ih (R / 10) (k + 1) (qH a b 10) (qL a b 10) _ q3 q4 (by rw [q2, e3]) (by omega) (by simp [hl]) (by omega) (by omega))
      have hc : (bif (k : Int) == 0 then true else vtZ a b) = true := by
        by_cases h : k = 0
        · subst h; rfl
        · rw [show ((k : Int) == 0) = false by simp; omega, vtZ_zero ha hb, decide_eq_false (show ¬ wv a b = 0 by omega)]; rfl
      rw [vd_round, hc, e4, catB_eq, strOf_cons, lenB_eq, lenB_eq, strOf_size, strOf_size, inU_of ha, inU_of hb, Nat.ble_eq_true_of_le (show [((48 + R % 10 : Nat) : Int)].length + acc.length ≤ 9223372036854775807 by simp; omega), wk ((k : Int) + 1) (by omega) (by omega)]
      rfl
def e_rtext : Spec := fun _ args => match args with
  | [.agg [.val (.int .u64 a), .val (.int .u64 b)]] => some (vs (wtx (wv a b)), none, [inU a, inU b])
  | _ => none
theorem ok_rtext : SpecOk Try.prog 25 e_rtext := fun m args v mo bs h hb => by
  unfold e_rtext at h
  split at h
  · rename_i a b
    cases h
    simp at hb
    have ha := isU_of hb.1
    have hb' := isU_of hb.2
    have hw := wv_in ha hb'
    obtain ⟨R, hR⟩ := Int.eq_ofNat_of_zero_le hw.1
    have hp3 : (10 : Nat) ^ 40 = 10000000000000000000000000000000000000000 := by decide
    have hl := vd_loop 40 R 0 a b [] ha hb' hR (by omega) rfl (by omega) (by omega)
    have e : (bif Nat.beq R 0 && Nat.blt 0 0 then [] else decL 40 R []) = decL 40 R [] := by rw [show Nat.blt 0 0 = false from rfl, Bool.and_false]; rfl
    rw [e] at hl
    unfold wtx
    rw [hR, Int.toNat_natCast]
    exact lift_ground (m1' := ⟨[], 99⟩) (fsound (c := bodyOf Try.f25) (fun xs w => Try.call25 xs w) Try.func25 rfl
      (Goes.gives (F_head (f := Try.f25) (c := bodyOf Try.f25) (cuts := vdC) (ns := []) (top := 99) hE_w mixed rfl rfl (vd_in a b)) hl)) rfl rfl
  · cases h
end Go.Proofs.Ytanfjgkohhlcoaa
