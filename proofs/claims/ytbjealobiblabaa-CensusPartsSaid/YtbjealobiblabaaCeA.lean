/-
  The statement CensusParts of layer 23 (census), proved.
-/
import Derived.Test.YtbjealobiblabaaCeAd
namespace Go.Proofs.Ytbjealobiblabaa
open Go Go.ChangeShapes Go.WideShapes Go.ChangeAt Go.RowKit Go.Deep
set_option maxRecDepth 100000
/-- Rows, as said. -/
def e_rowsL (l : List KV) : Spec := fun m args => match args with
  | [.val (.pointer none)] => some (.val (.slice none 0 0), none, [])
  | [.ptr b 1 0 0] => match look m.bl b with
    | some ⟨_, _, .cells [.mp lm]⟩ => match look m.bl lm with
      | some ⟨_, _, .obj (.mpo 3 2 es)⟩ => some (.sl false m.nx 5 0 1 l.length none, some ⟨(m.nx, some ⟨false, false, .rows (colsF fs5 l)⟩) :: m.bl, m.nx + 1⟩, [decide (KD es), Nat.ble es.length 4096, decide (sortK es = l)])
      | _ => none
    | _ => none
  | _ => none
theorem ok_rowsL (l : List KV) : SpecOk Try.prog 18 (e_rowsL l) := fun m args v mo bs h hb => by
  unfold e_rowsL at h
  split at h
  · cases h
    exact ok_rows m [.val (.pointer none)] _ none [] rfl rfl
  · rename_i b
    split at h <;> try cases h
    rename_i wr op lm hl
    split at h <;> cases h
    rename_i _ wr' op' es hlm
    obtain ⟨h1, hb⟩ := all_cons hb
    obtain ⟨h2, hb⟩ := all_cons hb
    have h3 : sortK es = l := by simpa using hb
    subst h3
    have g := ok_rows m [.ptr b 1 0 0] (.sl false m.nx 5 0 1 es.length none) (some ⟨(m.nx, some ⟨false, false, .rows (colsF fs5 (sortK es))⟩) :: m.bl, m.nx + 1⟩) [decide (KD es), Nat.ble es.length 4096] (by
      simp only [e_rows, hl, hlm]) (by
      simp only [List.all_cons, List.all_nil, Bool.and_true, Bool.and_eq_true]
      exact ⟨h1, h2⟩)
    rw [sortK_len]
    exact g
  · cases h
abbrev L_aw (P : Program) (f : Func) (l : List KV) : List (FuncId × Spec) := [(47, inl P [] f), (28, e_add), (18, e_rowsL l)]
theorem hE_aw (l : List KV) : ESound Try.prog (envOf (L_aw Try.prog Try.f47 l)) := env_cons (inl_ok env_nil mixedP (fun xs w => Try.call47 xs w) Try.func47 rfl) (env_cons ok_add (env_cons (ok_rowsL l) env_nil))
theorem aw_run : F_ Try.prog (L_aw Try.prog Try.f47 [([4, 2, 1], [2, 6])]) Try.f10 [] [] 99 [] noMem = some (.ret (vb true) ⟨[], 99⟩ true) := by kernel_rfl
def e_aw23 : Spec := fun _ args => match args with
  | [] => some (vb true, none, [])
  | _ => none
theorem ok_aw23 : SpecOk Try.prog 10 e_aw23 := fun m args v mo bs h hb => by
  unfold e_aw23 at h
  split at h <;> cases h
  exact pure_fn (c := bodyOf Try.f10) (hE_aw _) mixedP (fun xs w => Try.call10 xs w) Try.func10 rfl aw_run rfl rfl
abbrev L_pa : List (FuncId × Spec) := [(10, e_aw23), (11, e_of), (12, e_Site), (13, e_Class), (14, e_Total), (15, e_Old)]
theorem hE_pa : ESound Try.prog (envOf L_pa) := env_cons ok_aw23 (env_cons ok_of (env_cons ok_Site (env_cons ok_Class (env_cons ok_Total (env_cons ok_Old env_nil)))))
abbrev pC (a : Nat) : List Cut := [(2,[3,4,5,6,8],[1,2,3,4],a)]
abbrev pT (i j : AV) : List AV := [.unk, .unk, .unk, .ptr 2 1 0 0, .ptr 3 1 0 0, .ptr 4 1 0 0, i, .unk, j] ++ List.replicate 67 .unk
abbrev pM (es : List KV) (a a' b b' : Int) (nx : Nat) : MS := ⟨[(1, some ⟨true, false, .obj (.mpo 3 2 es)⟩), (2, some ⟨true, false, .cells [.mp 1]⟩), (3, some ⟨true, false, .cells [vi a, vi a']⟩), (4, some ⟨true, false, .cells [vi b, vi b']⟩)], nx⟩
theorem pa_big (P R S A : List Int) (G : List Bool) (nn : Bool) (n : Nat) (c : Option Nat) : FO_ Try.prog L_pa Try.f3 (pC 9) [] 99 [2, 1] [.sl nn 0 5 0 1 n c] ⟨[(0, some ⟨false, false, hdC P R S A G⟩)], 1⟩ = some (.ret (vb true) ⟨[], 99⟩ (conj [decide (60 < Int.ofNat n)])) := by kernel_rfl
theorem pa_in (P R S A : List Int) (G : List Bool) (nn : Bool) (n : Nat) (c : Option Nat) : FO_ Try.prog L_pa Try.f3 (pC 9) [] 99 [2, 0] [.sl nn 0 5 0 1 n c] ⟨[(0, some ⟨false, false, hdC P R S A G⟩)], 1⟩ =
    some (.head (hd Try.f3 0) (pT (vi 0) .unk) (pM (ofF P R S A 0 n []) 0 0 0 0 9) (conj [!decide (60 < Int.ofNat n), Nat.ble n 4096, Nat.ble n P.length, Nat.ble n R.length, Nat.ble n S.length, Nat.ble n A.length, Nat.ble n G.length])) := by kernel_rfl
theorem pa_r1 (es : List KV) (a a' b b' i : Int) : H_ Try.prog L_pa Try.f3 (pC 9) [] 99 (hd Try.f3 0) (pT (vi i) .unk) (pM es a a' b b' 5) =
    bif decide (i < 32) then some (.head (hd Try.f3 0) (pT (vi (up1 i)) .unk) (pM es (IntKind.i64.wrap (a + totF (pSite i) kD (sortK es) 0)) (IntKind.i64.wrap (a' + totF (pSite i) kE (sortK es) 0)) b b' 9) (conj [decide (KD es), Nat.ble es.length 4096]))
    else some (.head (hd Try.f3 1) (pT (vi i) (vi 0)) (pM es a a' b b' 9) true) := by kernel_rfl
abbrev E1 (es : List KV) (a a' : Int) : Bool := a == totF (pTotal 0) kD (sortK es) 0 && (a' == totF (pTotal 0) kE (sortK es) 0 && true)
abbrev E2 (es : List KV) (a a' b b' : Int) : Bool := bif E1 es a a' then b == totF (pTotal 0) kD (sortK es) 0 && (b' == totF (pTotal 0) kE (sortK es) 0 && true) else false
abbrev E3 (es : List KV) (a a' b b' : Int) : Bool := bif E2 es a a' b b' then totF (pOld 0) kD (sortK es) 0 == totF (pTotal 0) kD (sortK es) 0 && (totF (pOld 0) kE (sortK es) 0 == totF (pTotal 0) kE (sortK es) 0 && true) else false
abbrev E4 (es : List KV) (a a' b b' : Int) : Bool := bif E3 es a a' b b' then totF (pOld 8) kD (sortK es) 0 == 0 && (totF (pOld 8) kE (sortK es) 0 == 0 && true) else false
theorem pa_r2 (es : List KV) (a a' b b' i j : Int) : H_ Try.prog L_pa Try.f3 (pC 9) [] 99 (hd Try.f3 1) (pT (vi i) (vi j)) (pM es a a' b b' 5) =
    bif decide (j < 14) then some (.head (hd Try.f3 1) (pT (vi i) (vi (up1 j))) (pM es a a' (IntKind.i64.wrap (b + totF (pClass j) kD (sortK es) 0)) (IntKind.i64.wrap (b' + totF (pClass j) kE (sortK es) 0)) 9) (conj [decide (KD es), Nat.ble es.length 4096]))
    else some (.ret (vb (E4 es a a' b b')) ⟨[], 99⟩ (conj [decide (KD es), Nat.ble es.length 4096, !E1 es a a' || decide (KD es), !E1 es a a' || Nat.ble es.length 4096, !E2 es a a' b b' || decide (KD es), !E2 es a a' b b' || Nat.ble es.length 4096, !E2 es a a' b b' || decide (KD es), !E2 es a a' b b' || Nat.ble es.length 4096, !E3 es a a' b b' || decide (KD es), !E3 es a a' b b' || Nat.ble es.length 4096])) := by kernel_rfl
section
variable {es : List KV} {H : List Hd}
theorem pa_end (h : Holds es H) (hH : H.length ≤ 4096) (hl : es.length ≤ 4096) (i : Int) : Gives_ Try.prog Try.f3 1 ⟨hd Try.f3 1, pT (vi i) (vi ((14 : Nat) : Int)), pM es (accF kA kD (sortK es) 32) (accF kA kE (sortK es) 32) (accF kB kD (sortK es) 14) (accF kB kE (sortK es) 14) 5⟩ (vb true) ⟨[], 99⟩ := by
  have hr := fun e he => h.row hH (e := e) he
  have hlen : (sortK es).length ≤ 4096 := by rw [sortK_len]; exact hl
  have t := fun (p : KV → Bool) (f : KV → Int) (hf : ∀ e ∈ sortK es, 0 ≤ f e ∧ f e ≤ MX) => tot_sum p f (sortK es) 0 hf (by omega) (by unfold MX; omega)
  have hD : ∀ e ∈ sortK es, 0 ≤ kD e ∧ kD e ≤ MX := fun e he => (hr e he).2.2.2.1
  have hE : ∀ e ∈ sortK es, 0 ≤ kE e ∧ kE e ≤ MX := fun e he => (hr e he).2.2.2.2.1
  have e1 : E1 es (accF kA kD (sortK es) 32) (accF kA kE (sortK es) 32) = true := by
    unfold E1
    rw [t _ _ hD, t _ _ hE, accF_all kA kD 32 _ (fun e he => (hr e he).1), accF_all kA kE 32 _ (fun e he => (hr e he).1)]
    simp
  have e2 : E2 es (accF kA kD (sortK es) 32) (accF kA kE (sortK es) 32) (accF kB kD (sortK es) 14) (accF kB kE (sortK es) 14) = true := by
    unfold E2
    rw [e1, t _ _ hD, t _ _ hE, accF_all kB kD 14 _ (fun e he => (hr e he).2.1), accF_all kB kE 14 _ (fun e he => (hr e he).2.1)]
    simp
  have ho : ∀ e ∈ sortK es, pOld 0 e = pTotal 0 e := fun e he => decide_eq_true (hr e he).2.2.1.1
  have ho8 : ∀ e ∈ sortK es, pOld 8 e = false := fun e he => decide_eq_false (by have := (hr e he).2.2.1.2; omega)
  have e3 : E3 es (accF kA kD (sortK es) 32) (accF kA kE (sortK es) 32) (accF kB kD (sortK es) 14) (accF kB kE (sortK es) 14) = true := by
    unfold E3
    rw [e2, t _ _ hD, t _ _ hE, t _ _ hD, t _ _ hE, sumP_congr ho, sumP_congr ho]
    simp
  have e4 : E4 es (accF kA kD (sortK es) 32) (accF kA kE (sortK es) 32) (accF kB kD (sortK es) 14) (accF kB kE (sortK es) 14) = true := by
    unfold E4
    rw [e3, t _ _ hD, t _ _ hE, sumP_none ho8, sumP_none ho8]
    simp
  have he := pa_r2 es (accF kA kD (sortK es) 32) (accF kA kE (sortK es) 32) (accF kB kD (sortK es) 14) (accF kB kE (sortK es) 14) i ((14 : Nat) : Int)
  rw [decide_eq_false (show ¬ ((14 : Nat) : Int) < 14 by omega), cond_false, e1, e2, e3, e4, decide_eq_true h.1, Nat.ble_eq_true_of_le hl] at he
  exact H_ret (cuts := pC 9) (ns := []) (top := 99) hE_pa mixedP rfl he
theorem pa_loop2 (h : Holds es H) (hH : H.length ≤ 4096) (hl : es.length ≤ 4096) (i : Int) : ∀ (j k : Nat), k + j = 14 → Gives_ Try.prog Try.f3 1 ⟨hd Try.f3 1, pT (vi i) (vi (k : Int)), pM es (accF kA kD (sortK es) 32) (accF kA kE (sortK es) 32) (accF kB kD (sortK es) k) (accF kB kE (sortK es) k) 5⟩ (vb true) ⟨[], 99⟩
  | 0, k, hk => by
    have : k = 14 := by omega
    subst this
    exact pa_end h hH hl i
  | j + 1, k, hk => by
    have hr := fun e he => h.row hH (e := e) he
    have hlen : (sortK es).length ≤ 4096 := by rw [sortK_len]; exact hl
    have hD : ∀ e ∈ sortK es, 0 ≤ kD e ∧ kD e ≤ MX := fun e he => (hr e he).2.2.2.1
    have hE : ∀ e ∈ sortK es, 0 ≤ kE e ∧ kE e ≤ MX := fun e he => (hr e he).2.2.2.2.1
    have he := pa_r2 es (accF kA kD (sortK es) 32) (accF kA kE (sortK es) 32) (accF kB kD (sortK es) k) (accF kB kE (sortK es) k) i (k : Int)
    have b1 := accF_bounds kB kD (sortK es) hD hlen k
    have b2 := accF_bounds kB kE (sortK es) hE hlen k
    have b3 := sumP_bounds (pClass (k : Int)) kD (sortK es) hD
    have b4 := sumP_bounds (pClass (k : Int)) kE (sortK es) hE
    unfold MX at b3 b4
    rw [decide_eq_true (show (k : Int) < 14 by omega), cond_true, up1_nat (by omega), tot_sum _ _ _ 0 hD (by omega) (by unfold MX; omega), tot_sum _ _ _ 0 hE (by omega) (by unfold MX; omega), Int.zero_add, Int.zero_add, wr64 _ (by omega) (by omega), wr64 _ (by omega) (by omega), decide_eq_true h.1, Nat.ble_eq_true_of_le hl] at he
    exact Goes.gives ((H_head (f := Try.f3) (cuts := pC 9) (ns := []) (top := 99) hE_pa mixedP rfl he).trans (Goes.ren (P := Try.prog) (B := 1) (σ := [(1, 1), (2, 2), (3, 3), (4, 4)]) (nx := 5) rfl)) (pa_loop2 h hH hl i j (k + 1) (by omega))
theorem pa_loop1 (h : Holds es H) (hH : H.length ≤ 4096) (hl : es.length ≤ 4096) : ∀ (j k : Nat), k + j = 32 → Gives_ Try.prog Try.f3 1 ⟨hd Try.f3 0, pT (vi (k : Int)) .unk, pM es (accF kA kD (sortK es) k) (accF kA kE (sortK es) k) 0 0 5⟩ (vb true) ⟨[], 99⟩
  | 0, k, hk => by
    have : k = 32 := by omega
    subst this
    have he := pa_r1 es (accF kA kD (sortK es) 32) (accF kA kE (sortK es) 32) 0 0 ((32 : Nat) : Int)
    rw [decide_eq_false (show ¬ ((32 : Nat) : Int) < 32 by omega), cond_false] at he
    exact Goes.gives ((H_head (f := Try.f3) (cuts := pC 9) (ns := []) (top := 99) hE_pa mixedP rfl he).trans (Goes.ren (P := Try.prog) (B := 1) (σ := [(1, 1), (2, 2), (3, 3), (4, 4)]) (nx := 5) rfl)) (pa_loop2 h hH hl _ 14 0 (by omega))
  | j + 1, k, hk => by
    have hr := fun e he => h.row hH (e := e) he
    have hlen : (sortK es).length ≤ 4096 := by rw [sortK_len]; exact hl
    have hD : ∀ e ∈ sortK es, 0 ≤ kD e ∧ kD e ≤ MX := fun e he => (hr e he).2.2.2.1
    have hE : ∀ e ∈ sortK es, 0 ≤ kE e ∧ kE e ≤ MX := fun e he => (hr e he).2.2.2.2.1
    have he := pa_r1 es (accF kA kD (sortK es) k) (accF kA kE (sortK es) k) 0 0 (k : Int)
    have b1 := accF_bounds kA kD (sortK es) hD hlen k
    have b2 := accF_bounds kA kE (sortK es) hE hlen k
    have b3 := sumP_bounds (pSite (k : Int)) kD (sortK es) hD
    have b4 := sumP_bounds (pSite (k : Int)) kE (sortK es) hE
    unfold MX at b3 b4
    rw [decide_eq_true (show (k : Int) < 32 by omega), cond_true, up1_nat (by omega), tot_sum _ _ _ 0 hD (by omega) (by unfold MX; omega), tot_sum _ _ _ 0 hE (by omega) (by unfold MX; omega), Int.zero_add, Int.zero_add, wr64 _ (by omega) (by omega), wr64 _ (by omega) (by omega), decide_eq_true h.1, Nat.ble_eq_true_of_le hl] at he
    exact Goes.gives ((H_head (f := Try.f3) (cuts := pC 9) (ns := []) (top := 99) hE_pa mixedP rfl he).trans (Goes.ren (P := Try.prog) (B := 1) (σ := [(1, 1), (2, 2), (3, 3), (4, 4)]) (nx := 5) rfl)) (pa_loop1 h hH hl j (k + 1) (by omega))
end
theorem parts_any (A : Option Addr) (n c : Nat) (cs : List Col) (i : LI) (w : World) (hin : InB w A n (.rows cs) i) (hnc : n ≤ c) (hf : Fits n [.i .i64, .i .i64, .i .i64, .i .i64, .b] cs) : Gives 3 #[.slice A n c] w (.bool true) := by
  obtain ⟨_, _, rfl, ⟨P, rfl, h1, _⟩, _, _, rfl, ⟨R, rfl, h2, _⟩, _, _, rfl, ⟨S, rfl, h3, _⟩, _, _, rfl, ⟨Q, rfl, h4, _⟩, _, _, rfl, ⟨G, rfl, h5⟩, rfl⟩ := hf
  have hm : MRel (fun _ => i) ⟨[(0, some ⟨false, false, hdC P R S Q G⟩)], 1⟩ w := mrel_one (hin.ok _ _)
  have hx : AV.rels (fun _ => i) 1 [.sl false 0 5 0 1 n (some c)] [.slice A n c] := by
    simp only [AV.rels]
    exact ⟨_, _, rfl, hin.arg (ρ := fun _ => i) (by omega) hnc 5 1, rfl⟩
  refine gives_true (c := bodyOf Try.f3) (m' := ⟨[], 99⟩) Try.func3 rfl ?_ rfl hm hx
  by_cases hn : 60 < n
  · have he := pa_big P R S Q G false n (some c)
    rw [decide_eq_true (show (60 : Int) < Int.ofNat n by show (60 : Int) < (n : Int); omega)] at he
    exact FO_ret hE_pa mixedP rfl rfl he rfl
  · have he := pa_in P R S Q G false n (some c)
    rw [decide_eq_false (show ¬ (60 : Int) < Int.ofNat n by show ¬ (60 : Int) < (n : Int); omega), Nat.ble_eq_true_of_le (show n ≤ 4096 by omega), Nat.ble_eq_true_of_le (show n ≤ P.length by omega), Nat.ble_eq_true_of_le (show n ≤ R.length by omega), Nat.ble_eq_true_of_le (show n ≤ S.length by omega), Nat.ble_eq_true_of_le (show n ≤ Q.length by omega), Nat.ble_eq_true_of_le (show n ≤ G.length by omega)] at he
    have hh := of_holds P R S Q n 0 [] [] holds_nil (by simp; omega)
    have hl := of_len P R S Q n 0 []
    simp only [List.length_nil, Nat.zero_add] at hl
    exact Goes.gives ((FO_head (f := Try.f3) (c := bodyOf Try.f3) (cuts := pC 9) (ns := []) (top := 99) hE_pa mixedP rfl rfl he rfl).trans (Goes.ren (P := Try.prog) (B := 1) (σ := [(1, 1), (2, 2), (3, 3), (4, 4)]) (nx := 5) rfl)) (pa_loop1 hh (by rw [List.nil_append, hdI_len]; omega) (by omega) 32 0 (by omega))
set_option maxRecDepth 100000 in
theorem censusParts_lifted (os : Os) (started : os.Started) (H : Type) (enc : TypeId × Value → H) :
    ReturnsInHanded {} Try.checked os 3 .any (Rows.censusPartsSpec.pre6 enc Try.prog Try.f3 Rows.censusPartsRow.domain false) (Rows.censusPartsSpec.post enc Try.prog Try.f3 false true false false) := by
  refine returnsInHanded_of_change (C := Try.checked) Try.own started (by kernel_rfl) Try.func3
    (ChangeSpec.witness6 (enc := enc) (C := Try.checked) false ⟨#[], #[.slice none 0 0], []⟩ 8 (by kernel_rfl) (by kernel_rfl) (by kernel_rfl) (by kernel_rfl)) ?_
  intro W base args ds gs before hval0 hW hcnd hsized
  have hval : ∀ (j : Nat) t v, Try.f3.params[j]? = some t → args[j]? = some v → Value.okWide Try.prog W .any base t v := hval0
  have hW' := hW
  obtain ⟨p, q, hA0, hV, rfl, hfz, hnd⟩ := hW
  have hA : DataW.TrodAll enc Try.prog W 0 (fun _ => true) true Try.f3.params.toList args.toList ds p := hA0
  rw [Try.params3] at hA hval
  obtain ⟨v0, d0, rfl, rfl, h0⟩ := trodAll_one hA
  obtain ⟨A, n, c, cs, i, rfl, hnc, hc, hf, hin⟩ := open_nrows [.i .i64, .i .i64, .i .i64, .i .i64, .b] Try.underlying22 (show leavesT Try.prog 9 50 = some [3, 3, 3, 3, 4] by kernel_rfl) (by kernel_rfl) (by decide) (by kernel_rfl) (hval 0 _ v0 rfl rfl) h0
  refine Gives.use (parts_any A n c cs i W hin hnc hf) fun W' hb => ?_
  exact ⟨_, rfl, law_post Try.laidOut (by kernel_rfl) (by kernel_rfl) Try.underlying4 rfl hW' ⟨rfl, rfl, rfl⟩ hb⟩
theorem censusParts_holds : Rows.CensusPartsSaid :=
  OpenClaim.holds_of_wide 3 Try.f3 rfl rfl rfl rfl rfl rfl rfl ⟨rfl, rfl, rfl, rfl, rfl⟩ rfl rfl rfl rfl rfl (by kernel_rfl) Try.func3 (by kernel_rfl)
    (of_decide_eq_true (by kernel_rfl)) (by unfold Func.isWrapper; first | (rw [if_pos (by decide +kernel)]; kernel_rfl) | (rw [if_neg (by decide +kernel)]; exact ⟨rfl, rfl⟩))
    (fun os started H enc _ => censusParts_lifted os started H enc)
end Go.Proofs.Ytbjealobiblabaa
