/-
  Ledgers: the contracts of what they call; what a call does; the texts; the page's example; the sides.
-/
import Derived.Test.YtanfjgkohhlcoaaVk
import Derived.Test.YtanfjgkohhlcoaaWM
import Derived.Test.YtanfjgkohhlcoaaExI
import Derived.Test.YtanfjgkohhlcoaaBase
import Derived.Test.YtanfjgkohhlcoaaEx14
namespace Go.Proofs.Ytanfjgkohhlcoaa
open Go Go.RowKit
def inI (n : Int) : Bool := decide (-9223372036854775808 ≤ n) && decide (n ≤ 9223372036854775807)
theorem isI_of {n : Int} (h : inI n = true) : isI n := by
  unfold inI at h
  simp only [Bool.and_eq_true, decide_eq_true_eq] at h
  exact h
theorem inI_of {n : Int} (h : isI n) : inI n = true := by
  unfold isI at h
  unfold inI
  rw [decide_eq_true h.1, decide_eq_true h.2]
  rfl
def dpV (n k : Int) : Int := max n 0 * 64 + max k 0 * 64
def grV (n : Int) : Int := max n 0 * 12 + 16
theorem wv_s {x : Int} (h : 0 ≤ x) (h' : x < 340282366920938463463374607431768211456) : wv (satH x) (satL x) = x := wv_sat h (satF_t h')
theorem depV_eq {n k : Int} (hn : isI n) (hk : isI k) : haymowref25_Deposit_0 n k = satH (dpV n k) ∧ haymowref25_Deposit_1 n k = satL (dpV n k) := by
  obtain ⟨c1, c2⟩ := times_eq hn (t := 64) (by omega)
  obtain ⟨d1, d2⟩ := times_eq hk (t := 64) (by omega)
  obtain ⟨u1, u2⟩ := sat_isU (many_nn (n := n) (t := 64) (by omega))
  obtain ⟨v1, v2⟩ := sat_isU (many_nn (n := k) (t := 64) (by omega))
  obtain ⟨_, _, _, e4, e5⟩ := s2_eq u1 u2 v1 v2
  unfold isI at hn hk
  rw [wv_s (by omega) (by omega), wv_s (by omega) (by omega)] at e4 e5
  unfold haymowref25_Deposit_0 haymowref25_Deposit_1
  rw [c1, c2, d1, d2]
  exact ⟨e4, e5⟩
theorem grV_eq {n : Int} (hn : isI n) : haymowref25_Grant_0 n = satH (grV n) ∧ haymowref25_Grant_1 n = satL (grV n) := by
  obtain ⟨c1, c2⟩ := times_eq hn (t := 12) (by omega)
  obtain ⟨u1, u2⟩ := sat_isU (many_nn (n := n) (t := 12) (by omega))
  obtain ⟨_, _, _, e4, e5⟩ := s2_eq u1 u2 isU0 (d := 16) (by unfold isU; omega)
  unfold isI at hn
  rw [wv_s (by omega) (by omega), wv0] at e4 e5
  unfold haymowref25_Grant_0 haymowref25_Grant_1
  rw [c1, c2]
  exact ⟨e4, e5⟩
def e_cdep : Spec := fun _ args => match args with
  | [.val (.int .i64 n), .val (.int .i64 k)] => some (.agg [vu (satH (dpV n k)), vu (satL (dpV n k))], none, [inI n, inI k])
  | _ => none
theorem ok_cdep : SpecOk Try.prog 38 e_cdep := fun m args v mo bs h hb => by
  unfold e_cdep at h
  split at h
  · rename_i n k
    cases h
    simp at hb
    obtain ⟨a1, a2, a3⟩ := depo_eq (isI_of hb.1) (isI_of hb.2)
    obtain ⟨b1, b2⟩ := depV_eq (isI_of hb.1) (isI_of hb.2)
    rw [← b1, ← b2, ← a1, ← a2]
    exact ok_cost_Deposit m [vi n, vi k] (s_cost_Deposit n k) none [c_cost_Deposit n k] rfl (by simp [a3])
  · cases h
theorem ok_rdep : SpecOk Try.prog 39 e_cdep := fun m args v mo bs h hb => by
  unfold e_cdep at h
  split at h
  · rename_i n k
    cases h
    simp at hb
    obtain ⟨b1, b2⟩ := depV_eq (isI_of hb.1) (isI_of hb.2)
    rw [← b1, ← b2]
    exact ok_haymowref25_Deposit m [vi n, vi k] (s_haymowref25_Deposit n k) none [] rfl rfl
  · cases h
def e_cgr : Spec := fun _ args => match args with
  | [.val (.int .i64 n)] => some (.agg [vu (satH (grV n)), vu (satL (grV n))], none, [inI n])
  | _ => none
theorem ok_cgr : SpecOk Try.prog 40 e_cgr := fun m args v mo bs h hb => by
  unfold e_cgr at h
  split at h
  · rename_i n
    cases h
    simp at hb
    obtain ⟨a1, a2, a3⟩ := grant_eq (isI_of hb)
    obtain ⟨b1, b2⟩ := grV_eq (isI_of hb)
    rw [← b1, ← b2, ← a1, ← a2]
    exact ok_cost_Grant m [vi n] (s_cost_Grant n) none [c_cost_Grant n] rfl (by simp [a3])
  · cases h
theorem ok_rgr : SpecOk Try.prog 41 e_cgr := fun m args v mo bs h hb => by
  unfold e_cgr at h
  split at h
  · rename_i n
    cases h
    simp at hb
    obtain ⟨b1, b2⟩ := grV_eq (isI_of hb)
    rw [← b1, ← b2]
    exact ok_haymowref25_Grant m [vi n] (s_haymowref25_Grant n) none [] rfl rfl
  · cases h
def e_rplus : Spec := fun _ args => match args with
  | [.agg [.val (.int .u64 a), .val (.int .u64 b)], .agg [.val (.int .u64 c), .val (.int .u64 d)]] => some (.agg [vu (satH (wv a b + wv c d)), vu (satL (wv a b + wv c d))], none, [inU a, inU b, inU c, inU d])
  | _ => none
theorem ok_rplus : SpecOk Try.prog 46 e_rplus := fun m args v mo bs h hb => by
  unfold e_rplus at h
  split at h
  · rename_i a b c d
    cases h
    simp at hb
    have e := radd (isU_of hb.1) (isU_of hb.2.1) (isU_of hb.2.2.1) (isU_of hb.2.2.2)
    rw [← e.1, ← e.2.1]
    exact ok_haymowref25_Plus m [.agg [vu a, vu b], .agg [vu c, vu d]] (s_haymowref25_Plus a b c d) none [] rfl rfl
  · cases h
def L_k0 : List (FuncId × Spec) := (22, e_wtext) :: (25, e_rtext) :: (38, e_cdep) :: (39, e_cdep) :: (40, e_cgr) :: (41, e_cgr) :: (46, e_rplus) :: L_w
theorem hE_k0 : ESound Try.prog (envOf L_k0) := env_cons ok_wtext (env_cons ok_rtext (env_cons ok_cdep (env_cons ok_rdep (env_cons ok_cgr (env_cons ok_rgr (env_cons ok_rplus hE_w))))))
def L_k1 (P : Program) (f1 f2 f3 f4 f5 f6 f7 : Func) : List (FuncId × Spec) := (86, inlP P L_k0 f1) :: (50, inlP P L_k0 f2) :: (52, inlP P L_k0 f3) :: (79, inlP P L_k0 f4) :: (80, inlP P L_k0 f5) :: (82, inlP P L_k0 f6) :: (83, inlP P L_k0 f7) :: L_k0
abbrev LK1 (X : (P : Program) → (f1 f2 f3 f4 f5 f6 f7 : Func) → Prop) : Prop := X Try.prog Try.f86 Try.f50 Try.f52 Try.f79 Try.f80 Try.f82 Try.f83
theorem hE_k1 : LK1 fun P f1 f2 f3 f4 f5 f6 f7 => ESound P (envOf (L_k1 P f1 f2 f3 f4 f5 f6 f7)) :=
  env_cons (inlP_ok hE_k0 mixed (fun xs w => Try.call86 xs w) Try.func86 rfl)
    (env_cons (inlP_ok hE_k0 mixed (fun xs w => Try.call50 xs w) Try.func50 rfl)
      (env_cons (inlP_ok hE_k0 mixed (fun xs w => Try.call52 xs w) Try.func52 rfl)
        (env_cons (inlP_ok hE_k0 mixed (fun xs w => Try.call79 xs w) Try.func79 rfl)
          (env_cons (inlP_ok hE_k0 mixed (fun xs w => Try.call80 xs w) Try.func80 rfl)
            (env_cons (inlP_ok hE_k0 mixed (fun xs w => Try.call82 xs w) Try.func82 rfl)
              (env_cons (inlP_ok hE_k0 mixed (fun xs w => Try.call83 xs w) Try.func83 rfl) hE_k0))))))
def L_k2 (P : Program) (f1 f2 f3 f4 f5 f6 f7 f8 f9 : Func) : List (FuncId × Spec) := (78, inlP P (L_k1 P f1 f2 f3 f4 f5 f6 f7) f8) :: (81, inlP P (L_k1 P f1 f2 f3 f4 f5 f6 f7) f9) :: L_k1 P f1 f2 f3 f4 f5 f6 f7
theorem hE_k2 : LK1 fun P f1 f2 f3 f4 f5 f6 f7 => ESound P (envOf (L_k2 P f1 f2 f3 f4 f5 f6 f7 Try.f78 Try.f81)) :=
  env_cons (inlP_ok hE_k1 mixed (fun xs w => Try.call78 xs w) Try.func78 rfl)
    (env_cons (inlP_ok hE_k1 mixed (fun xs w => Try.call81 xs w) Try.func81 rfl) hE_k1)
/-- What is put by, and what is paid, by a call. -/
def kI (k n o : Int) : Int := bif k == 0 then dpV n o else bif k == 1 then grV n else 0
def kO (k s t : Int) : Int := bif k == 0 then 0 else bif k == 1 then 0 else wv s t
def sH (a b x : Int) : Int := satH (wv a b + x)
def sL (a b x : Int) : Int := satL (wv a b + x)
def e_do : Spec := fun _ args => match args with
  | [.agg [.val (.int .u64 a), .val (.int .u64 b), .val (.int .u64 c), .val (.int .u64 d)], .agg [.val (.int .u64 a'), .val (.int .u64 b'), .val (.int .u64 c'), .val (.int .u64 d')], .agg [.val (.int .i64 k), .val (.int .i64 n), .val (.int .i64 o), .val (.int .u64 s), .val (.int .u64 t)]] =>
    some (.tup [.agg [vu (sH a b (kI k n o)), vu (sL a b (kI k n o)), vu (sH c d (kO k s t)), vu (sL c d (kO k s t))], .agg [vu (sH a' b' (kI k n o)), vu (sL a' b' (kI k n o)), vu (sH c' d' (kO k s t)), vu (sL c' d' (kO k s t))]], none,
      [inU a, inU b, inU c, inU d, inU a', inU b', inU c', inU d', inI n, inI o, inU s, inU t])
  | _ => none
theorem dpV_nn (n o : Int) : 0 ≤ dpV n o := by unfold dpV; omega
theorem grV_nn (n : Int) : 0 ≤ grV n := by unfold grV; omega
theorem dpV_lt {n o : Int} (hn : isI n) (ho : isI o) : dpV n o < 340282366920938463463374607431768211456 := by unfold isI at hn ho; unfold dpV; omega
theorem grV_lt {n : Int} (hn : isI n) : grV n < 340282366920938463463374607431768211456 := by unfold isI at hn; unfold grV; omega
theorem s0 {a b : Int} (ha : isU a) (hb : isU b) : sH a b 0 = a ∧ sL a b 0 = b := by
  unfold sH sL
  rw [Int.add_zero]
  exact (sat_of (s := wv a b) rfl ha hb).2
def doO0 (a b n o : Int) (r : Bool) : Bool := bif inI n then bif inI o then bif inU a then bif inU b then bif inU (satH (dpV n o)) then bif inU (satL (dpV n o)) then r else false else false else false else false else false else false
def doO1 (a b n : Int) (r : Bool) : Bool := bif inI n then bif inU a then bif inU b then bif inU (satH (grV n)) then bif inU (satL (grV n)) then r else false else false else false else false else false
def doO2 (c d s t : Int) (r : Bool) : Bool := bif inU c then bif inU d then bif inU s then bif inU t then r else false else false else false else false
theorem do_run (a b c d a' b' c' d' k n o s t : Int) : F_ Try.prog (L_k2 Try.prog Try.f86 Try.f50 Try.f52 Try.f79 Try.f80 Try.f82 Try.f83 Try.f78 Try.f81) Try.f49 [] [] 99 [.agg [vu a, vu b, vu c, vu d], .agg [vu a', vu b', vu c', vu d'], .agg [vi k, vi n, vi o, vu s, vu t]] noMem =
    bif k == 0 then some (.ret (.tup [.agg [vu (sH a b (wv (satH (dpV n o)) (satL (dpV n o)))), vu (sL a b (wv (satH (dpV n o)) (satL (dpV n o)))), vu c, vu d], .agg [vu (sH a' b' (wv (satH (dpV n o)) (satL (dpV n o)))), vu (sL a' b' (wv (satH (dpV n o)) (satL (dpV n o)))), vu c', vu d']]) ⟨[], 99⟩ (doO0 a b n o (doO0 a' b' n o true)))
    else bif k == 1 then some (.ret (.tup [.agg [vu (sH a b (wv (satH (grV n)) (satL (grV n)))), vu (sL a b (wv (satH (grV n)) (satL (grV n)))), vu c, vu d], .agg [vu (sH a' b' (wv (satH (grV n)) (satL (grV n)))), vu (sL a' b' (wv (satH (grV n)) (satL (grV n)))), vu c', vu d']]) ⟨[], 99⟩ (doO1 a b n (doO1 a' b' n true)))
    else some (.ret (.tup [.agg [vu a, vu b, vu (sH c d (wv s t)), vu (sL c d (wv s t))], .agg [vu a', vu b', vu (sH c' d' (wv s t)), vu (sL c' d' (wv s t))]]) ⟨[], 99⟩ (doO2 c d s t (doO2 c' d' s t true))) := by kernel_rfl
theorem ok_do : SpecOk Try.prog 49 e_do := fun m args v mo bs h hb => by
  unfold e_do at h
  split at h
  · rename_i a b c d a' b' c' d' k n o s t
    cases h
    simp at hb
    obtain ⟨i1, i2, i3, i4, i5, i6, i7, i8, i9, i10, i11, i12⟩ := hb
    have hr := do_run a b c d a' b' c' d' k n o s t
    obtain ⟨z1, z2⟩ := s0 (isU_of i1) (isU_of i2)
    obtain ⟨z3, z4⟩ := s0 (isU_of i3) (isU_of i4)
    obtain ⟨z5, z6⟩ := s0 (isU_of i5) (isU_of i6)
    obtain ⟨z7, z8⟩ := s0 (isU_of i7) (isU_of i8)
    have fin : ∀ {v : AV}, F_ Try.prog (L_k2 Try.prog Try.f86 Try.f50 Try.f52 Try.f79 Try.f80 Try.f82 Try.f83 Try.f78 Try.f81) Try.f49 [] [] 99 [.agg [vu a, vu b, vu c, vu d], .agg [vu a', vu b', vu c', vu d'], .agg [vi k, vi n, vi o, vu s, vu t]] noMem = some (.ret v ⟨[], 99⟩ true) → v.ground = true → FSound Try.prog 49 m [.agg [vu a, vu b, vu c, vu d], .agg [vu a', vu b', vu c', vu d'], .agg [vi k, vi n, vi o, vu s, vu t]] v m := fun ht hg =>
      pure_fn (c := bodyOf Try.f49) hE_k2 mixed (fun xs w => Try.call49 xs w) Try.func49 rfl ht rfl hg
    unfold kI kO
    by_cases h0 : k = 0
    · subst h0
      simp only [beq_self_eq_true, cond_true] at hr ⊢
      obtain ⟨u1, u2⟩ := sat_isU (dpV_nn n o)
      rw [z3, z4, z7, z8]
      refine fin (hr.trans ?_) rfl
      rw [wv_s (dpV_nn n o) (dpV_lt (isI_of i9) (isI_of i10))]
      unfold doO0
      rw [i1, i2, i5, i6, i9, i10, inU_of u1, inU_of u2]
      rfl
    · rw [show (k == 0) = false from beq_false_of_ne h0] at hr ⊢
      by_cases h1 : k = 1
      · subst h1
        simp only [beq_self_eq_true, cond_true, cond_false] at hr ⊢
        obtain ⟨u1, u2⟩ := sat_isU (grV_nn n)
        rw [z3, z4, z7, z8]
        refine fin (hr.trans ?_) rfl
        rw [wv_s (grV_nn n) (grV_lt (isI_of i9))]
        unfold doO1
        rw [i1, i2, i5, i6, i9, inU_of u1, inU_of u2]
        rfl
      · rw [show (k == 1) = false from beq_false_of_ne h1] at hr ⊢
        simp only [cond_false] at hr ⊢
        rw [z1, z2, z5, z6]
        refine fin (hr.trans ?_) rfl
        unfold doO2
        rw [i3, i4, i7, i8, i11, i12]
        rfl
  · cases h
-- the texts
abbrev sp1 : ByteArray := ⟨#[32]⟩
def lxA (P Q : Int) : ByteArray := catB (catB (wtx P) sp1) (wtx Q)
/-- A ledger's text. -/
def ltx (a b c d : Int) : ByteArray := bif !subF (wv a b) (wv c d) then catB (lxA (wv a b) (wv c d)) ⟨#[32, 45]⟩ else catB (catB (lxA (wv a b) (wv c d)) sp1) (wtx (wv (subH (wv a b) (wv c d)) (subL (wv a b) (wv c d))))
def ltO (a b c d : Int) (r : Bool) : Bool := bif inU a then bif inU b then bif Nat.ble (lenB (wtx (wv a b)) + 1) 9223372036854775807 then bif inU c then bif inU d then bif Nat.ble (lenB (catB (wtx (wv a b)) sp1) + lenB (wtx (wv c d))) 9223372036854775807 then r else false else false else false else false else false else false
def lt1 (a b c d : Int) (r : Bool) : Bool := bif Nat.ble (lenB (lxA (wv a b) (wv c d)) + 1) 9223372036854775807 then r else false
def lt2 (a b c d : Int) : Bool := bif Nat.ble (lenB (lxA (wv a b) (wv c d)) + 2) 9223372036854775807 then true else false
def lt3 (a b c d : Int) : Bool := bif inU (subH (wv a b) (wv c d)) then bif inU (subL (wv a b) (wv c d)) then bif Nat.ble (lenB (catB (lxA (wv a b) (wv c d)) sp1) + lenB (wtx (wv (subH (wv a b) (wv c d)) (subL (wv a b) (wv c d))))) 9223372036854775807 then true else false else false else false
def lt4 (a b c d : Int) : Bool := bif Nat.ble (lenB (catB (lxA (wv a b) (wv c d)) sp1) + 1) 9223372036854775807 then true else false
theorem lt_run (a b c d : Int) : F_ Try.prog (L_k2 Try.prog Try.f86 Try.f50 Try.f52 Try.f79 Try.f80 Try.f82 Try.f83 Try.f78 Try.f81) Try.f51 [] [] 99 [.agg [vu a, vu b, vu c, vu d]] noMem =
    bif !subF (wv a b) (wv c d) then some (.ret (vs (catB (lxA (wv a b) (wv c d)) ⟨#[32, 45]⟩)) ⟨[], 99⟩ (doO2 a b c d (ltO a b c d (lt2 a b c d))))
    else some (.ret (vs (catB (catB (lxA (wv a b) (wv c d)) sp1) (wtx (wv (subH (wv a b) (wv c d)) (subL (wv a b) (wv c d)))))) ⟨[], 99⟩ (doO2 a b c d (ltO a b c d (lt1 a b c d (lt3 a b c d))))) := by kernel_rfl
theorem ld_run (a b c d : Int) : F_ Try.prog (L_k2 Try.prog Try.f86 Try.f50 Try.f52 Try.f79 Try.f80 Try.f82 Try.f83 Try.f78 Try.f81) Try.f53 [] [] 99 [.agg [vu a, vu b, vu c, vu d]] noMem =
    bif !subF (wv a b) (wv c d) then some (.ret (vs (catB (catB (lxA (wv a b) (wv c d)) sp1) ⟨#[45]⟩)) ⟨[], 99⟩ (doO2 a b c d (ltO a b c d (lt1 a b c d (lt4 a b c d)))))
    else some (.ret (vs (catB (catB (lxA (wv a b) (wv c d)) sp1) (wtx (wv (subH (wv a b) (wv c d)) (subL (wv a b) (wv c d)))))) ⟨[], 99⟩ (doO2 a b c d (ltO a b c d (lt1 a b c d (lt3 a b c d))))) := by kernel_rfl
theorem cat_len (a b : ByteArray) : lenB (catB a b) = lenB a + lenB b := by rw [catB_eq, lenB_eq, lenB_eq, lenB_eq, ByteArray.size_append]
theorem wtx_len (V : Int) : lenB (wtx V) ≤ 40 := by rw [lenB_eq]; exact wtx_size V
theorem sp_len : lenB sp1 = 1 := rfl
theorem lxA_len (P Q : Int) : lenB (lxA P Q) ≤ 81 := by
  have h1 := wtx_len P
  have h2 := wtx_len Q
  unfold lxA
  rw [cat_len, cat_len, sp_len]
  omega
theorem sub_isU (P Q : Int) (hP : 0 ≤ P) (hP' : P < 340282366920938463463374607431768211456) (hQ : 0 ≤ Q) : isU (subH P Q) ∧ isU (subL P Q) := by
  unfold subH subL
  by_cases h : P < Q
  · rw [decide_eq_true h]; exact ⟨isU0, isU0⟩
  · rw [decide_eq_false h]
    unfold isU
    simp only [cond_false]
    omega
theorem ble_t {a b : Nat} (h : a ≤ b) : Nat.ble a b = true := Nat.ble_eq_true_of_le h
theorem lt_all {a b c d : Int} {r : Bool} (ha : isU a) (hb : isU b) (hc : isU c) (hd : isU d) : doO2 a b c d r = r ∧ ltO a b c d r = r ∧ lt1 a b c d r = r ∧ lt2 a b c d = true ∧ lt3 a b c d = true ∧ lt4 a b c d = true := by
  have h1 := wtx_len (wv a b)
  have h2 := wtx_len (wv c d)
  have h3 := lxA_len (wv a b) (wv c d)
  have h4 := wtx_len (wv (subH (wv a b) (wv c d)) (subL (wv a b) (wv c d)))
  have w1 := wv_in ha hb
  have w2 := wv_in hc hd
  obtain ⟨u1, u2⟩ := sub_isU _ _ w1.1 w1.2 w2.1
  unfold doO2 ltO lt1 lt2 lt3 lt4
  rw [cat_len, cat_len, sp_len, inU_of ha, inU_of hb, inU_of hc, inU_of hd, inU_of u1, inU_of u2]
  simp only [cond_true]
  refine ⟨trivial, ?_, ?_, ?_, ?_, ?_⟩
  · rw [ble_t (by omega), ble_t (by omega)]; rfl
  · rw [ble_t (by omega)]; rfl
  · rw [ble_t (by omega)]; rfl
  · rw [ble_t (by omega)]; rfl
  · rw [ble_t (by omega)]; rfl
theorem cat_assoc (a b c : ByteArray) : catB (catB a b) c = catB a (catB b c) := by simp only [catB_eq, ByteArray.append_assoc]
def e_ltext : Spec := fun _ args => match args with
  | [.agg [.val (.int .u64 a), .val (.int .u64 b), .val (.int .u64 c), .val (.int .u64 d)]] => some (vs (ltx a b c d), none, [inU a, inU b, inU c, inU d])
  | _ => none
theorem ok_ltext : SpecOk Try.prog 51 e_ltext := fun m args v mo bs h hb => by
  unfold e_ltext at h
  split at h
  · rename_i a b c d
    cases h
    simp at hb
    obtain ⟨i1, i2, i3, i4⟩ := hb
    have hr := lt_run a b c d
    have g := fun r => lt_all (r := r) (isU_of i1) (isU_of i2) (isU_of i3) (isU_of i4)
    unfold ltx
    rw [(g true).2.2.2.1, (g true).2.2.2.2.1, (g true).2.2.1, (g true).2.1, (g true).1] at hr
    cases hs : subF (wv a b) (wv c d) with
    | true =>
      rw [hs] at hr
      exact pure_fn (c := bodyOf Try.f51) hE_k2 mixed (fun xs w => Try.call51 xs w) Try.func51 rfl hr rfl rfl
    | false =>
      rw [hs] at hr
      exact pure_fn (c := bodyOf Try.f51) hE_k2 mixed (fun xs w => Try.call51 xs w) Try.func51 rfl hr rfl rfl
  · cases h
theorem ok_dtext : SpecOk Try.prog 53 e_ltext := fun m args v mo bs h hb => by
  unfold e_ltext at h
  split at h
  · rename_i a b c d
    cases h
    simp at hb
    obtain ⟨i1, i2, i3, i4⟩ := hb
    have hr := ld_run a b c d
    have g := fun r => lt_all (r := r) (isU_of i1) (isU_of i2) (isU_of i3) (isU_of i4)
    unfold ltx
    rw [(g true).2.2.2.2.2, (g true).2.2.2.2.1, (g true).2.2.1, (g true).2.1, (g true).1] at hr
    cases hs : subF (wv a b) (wv c d) with
    | true =>
      rw [hs] at hr
      exact pure_fn (c := bodyOf Try.f53) hE_k2 mixed (fun xs w => Try.call53 xs w) Try.func53 rfl hr rfl rfl
    | false =>
      rw [hs, cat_assoc (lxA (wv a b) (wv c d)) sp1 ⟨#[45]⟩, show catB sp1 ⟨#[45]⟩ = ⟨#[32, 45]⟩ by rw [catB_eq]; rfl] at hr
      exact pure_fn (c := bodyOf Try.f53) hE_k2 mixed (fun xs w => Try.call53 xs w) Try.func53 rfl hr rfl rfl
  · cases h
def L_k3 (P : Program) (f1 f2 f3 f4 f5 f6 f7 f8 f9 : Func) : List (FuncId × Spec) := (51, e_ltext) :: (53, e_ltext) :: (49, e_do) :: L_k2 P f1 f2 f3 f4 f5 f6 f7 f8 f9
theorem hE_k3 : ESound Try.prog (envOf (L_k3 Try.prog Try.f86 Try.f50 Try.f52 Try.f79 Try.f80 Try.f82 Try.f83 Try.f78 Try.f81)) := env_cons ok_ltext (env_cons ok_dtext (env_cons ok_do hE_k2))
theorem la_run : F_ Try.prog (L_k3 Try.prog Try.f86 Try.f50 Try.f52 Try.f79 Try.f80 Try.f82 Try.f83 Try.f78 Try.f81) Try.f48 [] [] 99 [] noMem = some (.ret (vb true) ⟨[], 99⟩ true) := by kernel_rfl
def e_aw27 : Spec := fun _ args => match args with
  | [] => some (vb true, none, [])
  | _ => none
theorem ok_aw27 : SpecOk Try.prog 48 e_aw27 := fun m args v mo bs h hb => by
  unfold e_aw27 at h
  split at h
  · cases h
    exact pure_fn (c := bodyOf Try.f48) hE_k3 mixed (fun xs w => Try.call48 xs w) Try.func48 rfl la_run rfl rfl
  · cases h
def L_k4 (P : Program) (f1 f2 f3 f4 f5 f6 f7 f8 f9 : Func) : List (FuncId × Spec) := (48, e_aw27) :: L_k3 P f1 f2 f3 f4 f5 f6 f7 f8 f9
theorem hE_k4 : ESound Try.prog (envOf (L_k4 Try.prog Try.f86 Try.f50 Try.f52 Try.f79 Try.f80 Try.f82 Try.f83 Try.f78 Try.f81)) := env_cons ok_aw27 hE_k3
def lkB (ks ns os ss ts : List Int) : ABlk := ⟨false, false, .rows [.ints .i64 ks, .ints .i64 ns, .ints .i64 os, .ints .u64 ss, .ints .u64 ts]⟩
theorem gives_fn {P : Program} {f g : FuncId} {m : MS} {args : List AV} {v : AV} (hc : ∀ xs w, (callFunc f xs).run P w = .ok (.enter g xs) w) (h : ∀ (ρ : Rho) (xs : List Value) (w : World), AV.rels ρ m.nx args xs → Calls P g xs.toArray w fun e w' => (∃ x, e = .returned x ∧ AV.rel ρ m.nx v x) ∧ Below w.heap.size w w') : FSound P f m args v m := fun ρ w xs hm hx => by
  refine .inl ⟨g, hc _ w, Calls.mono (h ρ xs w hx) ?_⟩
  rintro e w' ⟨⟨x, rfl, hr⟩, hb⟩
  exact ⟨x, rfl, ρ, hr, hm.later hb.size hb.block, ⟨fun _ _ => rfl, Nat.le_refl _, hb.os, hb.tape, hb.output, hb.size, fun g hg _ => hb.block g hg, fun g hg => .inl hg⟩⟩
set_option maxHeartbeats 400000 in
theorem sides_any (a b c d : Int) (w : World) : Gives 52 #[.agg #[.int .u64 a, .int .u64 b, .int .u64 c, .int .u64 d]] w (.tuple #[.agg #[.int .u64 a, .int .u64 b], .agg #[.int .u64 c, .int .u64 d]]) := by
  refine gives ?_
  go_enter Try.func52, Try.ntmps52
  go_wp2
  go_region
  go_wp2
  ((try simp only [Exit.inBlock, Exit.then]); refine bodyPost_ret (by simp [results, Try.results52, go_sem, *]; try with_reducible rfl) rfl ?_)
  exact ⟨rfl, by (repeat' (first | (with_reducible exact Below.refl _ _) | (with_reducible assumption) | (with_reducible refine Below.alloc ?_ ?_ _) | (with_reducible refine Below.setCell ?_ ?_ _) | (with_reducible refine Below.drew ?_) | (with_reducible exact Nat.le_refl _) | omega | (simp; omega) | (simp; done)))⟩
def e_sides : Spec := fun _ args => match args with
  | [.agg [.val (.int .u64 a), .val (.int .u64 b), .val (.int .u64 c), .val (.int .u64 d)]] => some (.tup [.agg [vu a, vu b], .agg [vu c, vu d]], none, [])
  | _ => none
theorem ok_sides : SpecOk Try.prog 52 e_sides := fun m args v mo bs h hb => by
  unfold e_sides at h
  split at h
  · rename_i a b c d
    cases h
    refine gives_fn (fun xs w => Try.call52 xs w) fun ρ xs w hx => ?_
    simp only [AV.rels, AV.rel] at hx
    obtain ⟨_, _, rfl, ⟨_, rfl, _, _, rfl, rfl, _, _, rfl, rfl, _, _, rfl, rfl, _, _, rfl, rfl, rfl⟩, rfl⟩ := hx
    refine Calls.mono (sides_any a b c d w) ?_
    rintro e w' ⟨rfl, hB⟩
    refine ⟨⟨_, rfl, ?_⟩, hB⟩
    simp only [AV.rel, AV.rels]
    exact ⟨_, rfl, _, _, rfl, ⟨_, rfl, _, _, rfl, rfl, _, _, rfl, rfl, rfl⟩, _, _, rfl, ⟨_, rfl, _, _, rfl, rfl, _, _, rfl, rfl, rfl⟩, rfl⟩
  · cases h
def L_k5 (P : Program) (f1 f2 f3 f4 f5 f6 f7 f8 f9 : Func) : List (FuncId × Spec) := (52, e_sides) :: L_k4 P f1 f2 f3 f4 f5 f6 f7 f8 f9
theorem hE_k5 : ESound Try.prog (envOf (L_k5 Try.prog Try.f86 Try.f50 Try.f52 Try.f79 Try.f80 Try.f82 Try.f83 Try.f78 Try.f81)) := env_cons ok_sides hE_k4
end Go.Proofs.Ytanfjgkohhlcoaa
