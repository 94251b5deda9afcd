/-
  The statement SurviveFalls of layer 30 (survive), proved.
-/
import Derived.Test.YtbjealobiblabaaSvFe
namespace Go.Proofs.Ytbjealobiblabaa
open Go Go.ChangeShapes Go.WideShapes Go.ChangeAt Go.RowKit Go.Deep
set_option maxRecDepth 100000
-- The plain law
/-- What an object's age says of how old it came: it lives, or not. -/
def agR : List Int → List Nat → Prop
  | [], [] => True
  | x :: g, y :: m => (x = -1 ∨ x = (y : Int)) ∧ y ≤ 7 ∧ agR g m
  | _, _ => False
def cg (a : Nat) : List Nat → Nat
  | [] => 0
  | y :: m => (if a ≤ y then 1 else 0) + cg a m
theorem agR_len : ∀ {g : List Int} {m : List Nat}, agR g m → g.length = m.length
  | [], [], _ => rfl
  | _ :: _, _ :: _, h => by simp only [List.length_cons, agR_len h.2.2]
  | [], _ :: _, h => h.elim
  | _ :: _, [], h => h.elim
theorem agR_snoc : ∀ {g : List Int} {m : List Nat} {x : Int} {y : Nat}, agR g m → (x = -1 ∨ x = (y : Int)) → y ≤ 7 → agR (g ++ [x]) (m ++ [y])
  | [], [], x, y, _, h1, h2 => ⟨h1, h2, trivial⟩
  | _ :: _, _ :: _, x, y, h, h1, h2 => ⟨h.1, h.2.1, agR_snoc h.2.2 h1 h2⟩
  | [], _ :: _, _, _, h, _, _ => h.elim
  | _ :: _, [], _, _, h, _, _ => h.elim
theorem cg_append (a : Nat) : ∀ (m m' : List Nat), cg a (m ++ m') = cg a m + cg a m'
  | [], m' => by simp [cg]
  | y :: m, m' => by rw [List.cons_append, cg, cg, cg_append a m m', Nat.add_assoc]
theorem cg_zero : ∀ m : List Nat, cg 0 m = m.length
  | [] => rfl
  | y :: m => by rw [cg, cg_zero m, if_pos (Nat.zero_le _), List.length_cons, Nat.add_comm]
theorem cg_anti (a : Nat) : ∀ m : List Nat, cg (a + 1) m ≤ cg a m
  | [] => Nat.le_refl _
  | y :: m => by
    have := cg_anti a m
    simp only [cg]
    by_cases h : a + 1 ≤ y
    · rw [if_pos h, if_pos (by omega)]; omega
    · rw [if_neg h]; omega
theorem cg_le (a : Nat) : ∀ m : List Nat, cg a m ≤ m.length
  | [] => Nat.le_refl _
  | y :: m => by
    have := cg_le a m
    simp only [cg, List.length_cons]
    split <;> omega
/-- The row of the one site. -/
def zR (zs : List Int) (m : List Nat) : Prop := zs.length = 225 ∧ ∀ a, a ≤ 6 → zs.getD (21 + a) 0 = (cg a m : Int)
theorem zR_new : zR (List.replicate 225 0) [] := by
  refine ⟨by simp, fun a ha => ?_⟩
  rw [List.getD_eq_getElem?_getD, List.getElem?_replicate, if_pos (by omega)]
  rfl
theorem set_get {zs : List Int} {i j : Nat} {v : Int} (h : i < zs.length) : (zs.set i v).getD j 0 = if i = j then v else zs.getD j 0 := by
  rw [List.getD_eq_getElem?_getD, List.getElem?_set, List.getD_eq_getElem?_getD]
  by_cases e : i = j
  · rw [if_pos e, if_pos e, if_pos h]; rfl
  · rw [if_neg e, if_neg e]
theorem zR_ask {zs : List Int} {m : List Nat} (h : zR zs m) (hm : m.length ≤ 100) : zR (askF zs 3) (m ++ [0]) := by
  have e3 : svA 3 = 21 := svA_nat 3
  have hi : survive_is_0 3 0 = true := rfl
  unfold askF
  rw [hi, cond_true, e3]
  refine ⟨by rw [List.length_set]; exact h.1, fun a ha => ?_⟩
  rw [set_get (by rw [h.1]; omega), cg_append]
  have h0 := h.2 0 (by omega)
  rw [cg_zero] at h0
  by_cases e : a = 0
  · subst e
    rw [if_pos rfl, show (21 : Nat) = 21 + 0 from rfl, h0, cg_zero, wr64 _ (by omega) (by omega)]
    simp [cg]
  · rw [if_neg (by omega), h.2 a ha]
    simp only [cg]
    rw [if_neg (by omega)]
    simp
theorem sum_one (p : KV → Bool) (k : List Int) (v : Int) : ∀ l : List KV, (l.map (·.1)).Nodup → (∀ e ∈ l, p e = true → e.1 = k) → (∀ e ∈ l, e.1 = k → p e = true ∧ kD e = v) → sumP p kD l = if k ∈ l.map (·.1) then v else 0
  | [], _, _, _ => rfl
  | e :: l, hn, h1, h2 => by
    rw [List.map_cons, List.nodup_cons] at hn
    have ih := sum_one p k v l hn.2 (fun x hx => h1 x (List.mem_cons_of_mem _ hx)) (fun x hx => h2 x (List.mem_cons_of_mem _ hx))
    rw [sumP, ih, List.map_cons]
    by_cases e1 : e.1 = k
    · obtain ⟨g1, g2⟩ := h2 e (List.mem_cons_self ..) e1
      rw [g1, cond_true, g2, if_neg (show k ∉ l.map (·.1) by rw [← e1]; exact hn.1), if_pos (by rw [e1]; exact List.mem_cons_self ..), Int.add_zero]
    · have : p e = false := by
        cases hp : p e with
        | false => rfl
        | true => exact absurd (h1 e (List.mem_cons_self ..) hp) e1
      rw [this, cond_false, Int.zero_add]
      by_cases e2 : k ∈ l.map (·.1)
      · rw [if_pos e2, if_pos (List.mem_cons_of_mem _ e2)]
      · rw [if_neg e2, if_neg (by rw [List.mem_cons]; exact fun h => h.elim (fun h => e1 h.symm) e2)]
/-- Rows laid onto the tables, at one place. -/
theorem seeF_at (a : Nat) (ha : a ≤ 6) : ∀ (l : List KV) (zs : List Int), zs.length = 225 → (∀ e ∈ l, 0 ≤ kD e ∧ kD e ≤ MX) → 0 ≤ zs.getD (21 + a) 0 → zs.getD (21 + a) 0 + l.length * MX ≤ 4611686018427387904 →
    (seeF zs l).getD (21 + a) 0 = zs.getD (21 + a) 0 + sumP (fun e => decide (1 ≤ kC e) && (kA e == 3 && kC e == (a : Int))) kD l
  | [], zs, _, _, _, _ => by simp [seeF, sumP]
  | e :: l, zs, hz, hd, h0, h1 => by
    obtain ⟨d1, d2⟩ := hd e (List.mem_cons_self ..)
    simp only [List.length_cons] at h1
    unfold MX at *
    rw [seeF, sumP]
    cases hc : (bif decide (1 ≤ kC e) then survive_is_0 (kA e) (kC e) else false) with
    | true =>
      have h1c : decide (1 ≤ kC e) = true := by
        cases hd' : decide (1 ≤ kC e) with
        | true => rfl
        | false => rw [hd', cond_false] at hc; cases hc
      have hs : survive_is_0 (kA e) (kC e) = true := by rw [h1c, cond_true] at hc; exact hc
      have hx := svI_lt hs
      obtain ⟨⟨s1, s2⟩, s3, s4⟩ := is_iff.1 hs
      obtain ⟨x, hxx⟩ := Int.eq_ofNat_of_zero_le s1
      obtain ⟨y, hyy⟩ := Int.eq_ofNat_of_zero_le s3
      have hxx : kA e = (x : Int) := hxx
      have hyy : kC e = (y : Int) := hyy
      have hg : (zs.set (svI (kA e) (kC e)) (IntKind.i64.wrap (zs.getD (svI (kA e) (kC e)) 0 + kD e))).getD (21 + a) 0 = zs.getD (21 + a) 0 + (bif (decide (1 ≤ kC e) && (kA e == 3 && kC e == (a : Int))) then kD e else 0) := by
        rw [set_get (by omega), hxx, hyy, svI_nat]
        by_cases e1 : x * 7 + y = 21 + a
        · have ex : x = 3 := by omega
          have ey : y = a := by omega
          subst ex ey
          rw [if_pos e1, e1, wr64 _ (by omega) (by omega)]
          have : decide (1 ≤ ((y : Nat) : Int)) = true := by rw [← hyy]; exact h1c
          rw [this]
          simp
        · rw [if_neg e1]
          have : (((x : Nat) : Int) == 3 && ((y : Nat) : Int) == (a : Int)) = false := by
            by_cases ex : x = 3
            · have : y ≠ a := fun e => e1 (by omega)
              simp [ex]; omega
            · simp; omega
          rw [this]
          simp
      rw [cond_true]
      have hsum : 0 ≤ (bif (decide (1 ≤ kC e) && (kA e == 3 && kC e == (a : Int))) then kD e else 0) ∧ (bif (decide (1 ≤ kC e) && (kA e == 3 && kC e == (a : Int))) then kD e else 0) ≤ 67108864 := by
        cases (decide (1 ≤ kC e) && (kA e == 3 && kC e == (a : Int))) <;> simp only [cond_true, cond_false] <;> omega
      rw [seeF_at a ha l _ (by rw [List.length_set]; exact hz) (fun x hx => hd x (List.mem_cons_of_mem _ hx)) (by rw [hg]; omega) (by rw [hg]; unfold MX; omega), hg]
      omega
    | false =>
      rw [cond_false, seeF_at a ha l zs hz (fun x hx => hd x (List.mem_cons_of_mem _ hx)) h0 (by unfold MX; omega)]
      have : (decide (1 ≤ kC e) && (kA e == 3 && kC e == (a : Int))) = false := by
        cases hq : (decide (1 ≤ kC e) && (kA e == 3 && kC e == (a : Int))) with
        | false => rfl
        | true =>
          simp only [Bool.and_eq_true, decide_eq_true_eq, beq_iff_eq] at hq
          obtain ⟨q1, q2, q3⟩ := hq
          rw [decide_eq_true q1, cond_true] at hc
          have : survive_is_0 (kA e) (kC e) = true := is_iff.2 ⟨by omega, by omega⟩
          rw [this] at hc; cases hc
      rw [this, cond_false, Int.zero_add]
theorem cls00 : cls 0 0 = 0 := rfl
theorem rfA_len' (H : List Hd) (s c : Int) : ∀ (j i : Nat), (rfA H s c i j).length ≤ j
  | 0, _ => Nat.le_refl _
  | j + 1, i => by
    have h1 : rfA H s c i (j + 1) = rowK H [s, c, (i : Int)] ++ rfA H s c (i + 1) j := by simp [rfA, List.range'_succ]
    have h2 : (rowK H [s, c, (i : Int)]).length ≤ 1 := by unfold rowK; split <;> simp
    rw [h1, List.length_append]
    have := rfA_len' H s c j (i + 1)
    omega
theorem rfC_len' (H : List Hd) (s : Int) : ∀ (j i : Nat), (rfC H s i j).length ≤ 8 * j
  | 0, _ => Nat.le_refl _
  | j + 1, i => by
    have h1 : rfC H s i (j + 1) = rfA H s (i : Int) 0 8 ++ rfC H s (i + 1) j := by simp [rfC, List.range'_succ]
    rw [h1, List.length_append]
    have := rfA_len' H s (i : Int) 8 0
    have := rfC_len' H s j (i + 1)
    omega
theorem rfS_len' (H : List Hd) : ∀ (j i : Nat), (rfS H i j).length ≤ 112 * j
  | 0, _ => Nat.le_refl _
  | j + 1, i => by
    have h1 : rfS H i (j + 1) = rfC H (i : Int) 0 14 ++ rfS H (i + 1) j := by simp [rfS, List.range'_succ]
    rw [h1, List.length_append]
    have := rfC_len' H (i : Int) 14 0
    have := rfS_len' H j (i + 1)
    omega
theorem cnt_mem {k : List Int} : ∀ {H : List Hd}, cnt k H ≠ 0 → ∃ x ∈ H, isK k x = true
  | [], h => absurd rfl h
  | x :: H, h => by
    cases hk : isK k x with
    | true => exact ⟨x, List.mem_cons_self .., hk⟩
    | false =>
      rw [cnt, hk] at h
      obtain ⟨y, h1, h2⟩ := cnt_mem (H := H) (by simpa using h)
      exact ⟨y, List.mem_cons_of_mem _ h1, h2⟩
theorem holds_len' {E : List KV} {H : List Hd} (h : Holds E H) : E.length ≤ 3584 := by
  have h1 : E.length = (RF H).length := by rw [← sort_RF h, sortK_len]
  have := rfS_len' H 32 0
  unfold RF at h1
  omega
/-- A census of objects of the one site, seen. -/
theorem zR_see {zs : List Int} {pre done : List Nat} {es : List KV} {H : List Hd} (h : zR zs pre) (hh : Holds es H) (hk : ∀ x ∈ H, ∃ a : Int, x = (0, 0, 3, a)) (hl : H.length ≤ 100) (hp : pre.length ≤ 100) (hd : done.length = pre.length)
    (hc : ∀ a : Nat, 1 ≤ a → a ≤ 6 → cg a done = cg a pre + cnt [3, 0, (a : Int)] H) : zR (seeS zs es) done := by
  refine ⟨by rw [seeS_len]; exact h.1, fun a ha => ?_⟩
  have hs := sort_RF hh
  have hr := fun e he => hh.row (by omega) (e := e) he
  have hlen := (holds_len' hh)
  have hg : (zs.set 224 (IntKind.i64.wrap (zs.getD 224 0 + 1))).getD (21 + a) 0 = (cg a pre : Int) := by
    rw [set_get (by rw [h.1]; omega), if_neg (by omega), h.2 a ha]
  have hle := cg_le a pre
  unfold seeS
  rw [seeF_at a ha (sortK es) _ (by rw [List.length_set]; exact h.1) (fun e he => (hr e he).2.2.2.1) (by rw [hg]; omega) (by rw [hg, sortK_len]; unfold MX; omega), hg]
  by_cases h0 : a = 0
  · subst h0
    rw [cg_zero, cg_zero, hd, sumP_none (fun e he => ?_)]
    · simp
    · cases hq : (decide (1 ≤ kC e) && (kA e == 3 && kC e == ((0 : Nat) : Int))) with
      | false => rfl
      | true =>
        simp only [Bool.and_eq_true, decide_eq_true_eq, beq_iff_eq] at hq
        omega
  · rw [hc a (by omega) ha]
    have hkey : ∀ e ∈ sortK es, e.1 = [3, 0, kC e] := fun e he => by
      rw [hs] at he
      obtain ⟨h1, h2⟩ := mem_RF.1 he
      obtain ⟨x, hx, hxk⟩ := cnt_mem h1
      obtain ⟨b, rfl⟩ := hk x hx
      have : e.1 = [3, cls 0 0, b] := (isK_iff.1 hxk).2.symm
      rw [cls00] at this
      unfold kC
      rw [this]
      rfl
    have hv : ∀ e ∈ sortK es, kD e = (cnt e.1 H : Int) := fun e he => by
      rw [hs] at he
      unfold kD
      rw [(mem_RF.1 he).2]
      rfl
    have hsum := sum_one (fun e => decide (1 ≤ kC e) && (kA e == 3 && kC e == (a : Int))) [3, 0, (a : Int)] (cnt [3, 0, (a : Int)] H) (sortK es) (hh.1.perm (sortK_perm es).symm).2 (fun e he hq => by
      simp only [Bool.and_eq_true, decide_eq_true_eq, beq_iff_eq] at hq
      rw [hkey e he, hq.2.2]) (fun e he hq => by
      refine ⟨?_, by rw [hv e he, hq]⟩
      have h1 := hkey e he
      rw [hq] at h1
      simp only [List.cons.injEq, and_true, true_and] at h1
      have h3 : kA e = 3 := by unfold kA; rw [hq]; rfl
      rw [← h1, h3]
      simp; omega)
    rw [hsum]
    by_cases hm : [3, 0, (a : Int)] ∈ (sortK es).map (·.1)
    · rw [if_pos hm]; simp
    · rw [if_neg hm]
      have : cnt [3, 0, (a : Int)] H = 0 := by
        cases hz : cnt [3, 0, (a : Int)] H with
        | zero => rfl
        | succ q =>
          refine absurd ?_ hm
          rw [hs]
          exact List.mem_map.2 ⟨([3, 0, (a : Int)], [(cnt [3, 0, (a : Int)] H : Int), wrd [3, 0, (a : Int)] H]), mem_RF.2 ⟨by show cnt [3, 0, (a : Int)] H ≠ 0; omega, rfl⟩, rfl⟩
      rw [this]; simp
-- The run
abbrev agV (g : List Int) : AV := match g with
  | [] => .val (.slice none 0 0)
  | _ :: _ => .sl true 2 1 0 1 g.length none
abbrev agB (g : List Int) : List (Nat × Option ABlk) := match g with
  | [] => []
  | _ :: _ => [flG 2 g]
theorem foc {todo : List Item} {tm : List AV} {bss : List (List Bool)} {r : List (Nat × Option ABlk)} (k i : Nat) (hi : i < bss.length) : Goes Try.prog 1 ⟨todo, tm, ⟨flN bss :: r, k⟩⟩ ⟨todo, tm, ⟨flF bss i k r, k + 1⟩⟩ :=
  Goes.focus (P := Try.prog) (B := 1) (todo := todo) (tm := tm) (m := ⟨flN bss :: r, k⟩) 0 0 i rfl rfl (by simpa [NCol.len] using hi)
theorem qi_ok {i n : Nat} (hi : i < n) : decide (0 ≤ (i : Int)) = true ∧ decide ((i : Int).toNat < n) = true ∧ Nat.beq (iz (i : Int) + 0) i = true := by
  refine ⟨decide_eq_true (by omega), decide_eq_true (by rw [Int.toNat_natCast]; exact hi), ?_⟩
  rw [iz_nat, Nat.add_zero, Nat.beq_refl]
theorem Goes.maskV {B : Nat} {todo : List Item} {tm : List AV} {m : MS} (live : List Nat) : Goes Try.prog B ⟨todo, tm, m⟩ ⟨todo, maskA live 0 tm, m⟩ := fun b cs ρ a w ht hm hB => ⟨ρ, a, w, Steps.refl _ _, maskA_rels 0 ht, rfl, hm, Moves.refl hB⟩
theorem g1 (bss : List (List Bool)) (nn : Bool) (n : Nat) (c : Option Nat) (zs : List Int) (i : Nat) (g : List Int) (hb : i < bss.length) (hi : i < n) (hL : (bss.getD i []).length ≤ 20) : Goes Try.prog 1 ⟨hd Try.f8 0, flT nn n c (agV g) (vi (i : Int)) .unk .unk .unk .unk, ⟨flN bss :: (flZ zs :: agB g), 3⟩⟩ ⟨hd Try.f8 1, flT nn n c (agV g) (vi (i : Int)) (vi (g.length : Int)) .unk .unk .unk, ⟨flN bss :: (flZ zs :: agB g), 3⟩⟩ := by
  match g with
  | [] =>
    have h := f1N bss nn n c zs i (i : Int)
    rw [decide_eq_true (show (i : Int) < Int.ofNat n by show (i : Int) < (n : Int); omega), (qi_ok hi).1, (qi_ok hi).2.1, (qi_ok hi).2.2, decide_eq_false (show ¬ (20 : Int) < Int.ofNat (bss.getD i []).length by show ¬ (20 : Int) < ((bss.getD i []).length : Int); omega)] at h
    exact (foc 3 i hb).trans ((HO_head hE_fl mixedP rfl h rfl).trans (Goes.ren (P := Try.prog) (B := 1) (σ := [(0, 0), (1, 1)]) (nx := 3) rfl))
  | e :: g =>
    have h := f1Y bss nn n c zs (e :: g) (e :: g).length i (i : Int)
    rw [decide_eq_true (show (i : Int) < Int.ofNat n by show (i : Int) < (n : Int); omega), (qi_ok hi).1, (qi_ok hi).2.1, (qi_ok hi).2.2, decide_eq_false (show ¬ (20 : Int) < Int.ofNat (bss.getD i []).length by show ¬ (20 : Int) < ((bss.getD i []).length : Int); omega)] at h
    exact (foc 3 i hb).trans ((HO_head hE_fl mixedP rfl h rfl).trans (Goes.ren (P := Try.prog) (B := 1) (σ := [(0, 0), (1, 1), (2, 2)]) (nx := 3) rfl))
theorem g2 (bss : List (List Bool)) (nn : Bool) (n : Nat) (c : Option Nat) (zs : List Int) (i k : Nat) (g : List Int) (hb : i < bss.length) (hi : i < n) (hk : k < (bss.getD i []).length) (hL : (bss.getD i []).length ≤ 20) (hz : zs.length = 225) (hg : g.length ≤ 20) : Goes Try.prog 1 ⟨hd Try.f8 1, flT nn n c (agV g) (vi (i : Int)) (vi (k : Int)) .unk .unk .unk, ⟨flN bss :: (flZ zs :: agB g), 3⟩⟩ ⟨hd Try.f8 1, flT nn n c (agV (g ++ [0])) (vi (i : Int)) (vi ((k + 1 : Nat) : Int)) .unk .unk .unk, ⟨flN bss :: (flZ (askF zs 3) :: agB (g ++ [0])), 3⟩⟩ := by
  match g, hg with
  | [], _ =>
    have h := f2N bss nn n c zs i (i : Int) (k : Int)
    rw [(qi_ok hi).1, (qi_ok hi).2.1, (qi_ok hi).2.2, decide_eq_true (show (k : Int) < Int.ofNat (bss.getD i []).length by show (k : Int) < ((bss.getD i []).length : Int); omega), decide_eq_true hz, up1_nat (by omega)] at h
    exact (foc 3 i hb).trans ((HO_head hE_fl mixedP rfl h rfl).trans (Goes.ren (P := Try.prog) (B := 1) (σ := [(0, 0), (1, 1), (2, 5)]) (nx := 3) rfl))
  | e :: g, hg =>
    have h := f2Y bss nn n c zs (e :: g) (e :: g).length i (i : Int) (k : Int)
    have hg : (e :: g).length ≤ 20 := hg
    have e3 : (e :: g).length + 1 = (e :: g ++ [0]).length := by simp
    rw [(qi_ok hi).1, (qi_ok hi).2.1, (qi_ok hi).2.2, decide_eq_true (show (k : Int) < Int.ofNat (bss.getD i []).length by show (k : Int) < ((bss.getD i []).length : Int); omega), decide_eq_true hz, up1_nat (by omega), decide_eq_true (show 0 < (e :: g).length from Nat.succ_pos _), decide_eq_true (show ((e :: g).length + 1) * 8 ≤ 140737488355328 by omega), decide_eq_true (Nat.le_refl (e :: g).length), List.take_of_length_le (Nat.le_refl (e :: g).length), e3] at h
    exact (foc 3 i hb).trans ((HO_head hE_fl mixedP rfl h rfl).trans (Goes.ren (P := Try.prog) (B := 1) (σ := [(0, 0), (1, 1), (2, 5)]) (nx := 3) rfl))
theorem g2e (bss : List (List Bool)) (nn : Bool) (n : Nat) (c : Option Nat) (zs : List Int) (i k : Nat) (g : List Int) (hb : i < bss.length) (hi : i < n) (hk : (bss.getD i []).length ≤ k) : Goes Try.prog 1 ⟨hd Try.f8 1, flT nn n c (agV g) (vi (i : Int)) (vi (k : Int)) .unk .unk .unk, ⟨flN bss :: (flZ zs :: agB g), 3⟩⟩ ⟨hd Try.f8 2, flT nn n c (agV g) (vi (i : Int)) .unk (.ptr 4 1 0 0) (vi ((0 : Nat) : Int)) .unk, ⟨flN bss :: (flZ zs :: (agB g ++ flM [])), 5⟩⟩ := by
  match g with
  | [] =>
    have h := f2eN bss nn n c zs i (i : Int) (k : Int)
    rw [(qi_ok hi).1, (qi_ok hi).2.1, (qi_ok hi).2.2, decide_eq_false (show ¬ (k : Int) < Int.ofNat (bss.getD i []).length by show ¬ (k : Int) < ((bss.getD i []).length : Int); omega)] at h
    exact (foc 3 i hb).trans (((HO_head hE_fl mixedP rfl h rfl).trans (Goes.maskV [0, 3, 4, 5, 7, 8])).trans (Goes.ren (P := Try.prog) (B := 1) (σ := [(0, 0), (1, 1), (3, 4), (4, 5)]) (nx := 5) rfl))
  | e :: g =>
    have h := f2eY bss nn n c zs (e :: g) (e :: g).length i (i : Int) (k : Int)
    rw [(qi_ok hi).1, (qi_ok hi).2.1, (qi_ok hi).2.2, decide_eq_false (show ¬ (k : Int) < Int.ofNat (bss.getD i []).length by show ¬ (k : Int) < ((bss.getD i []).length : Int); omega)] at h
    exact (foc 3 i hb).trans (((HO_head hE_fl mixedP rfl h rfl).trans (Goes.maskV [0, 3, 4, 5, 7, 8])).trans (Goes.ren (P := Try.prog) (B := 1) (σ := [(0, 0), (1, 1), (2, 2), (3, 4), (4, 5)]) (nx := 5) rfl))
theorem g3e (bss : List (List Bool)) (nn : Bool) (n : Nat) (c : Option Nat) (zs : List Int) (es : List KV) (i k : Nat) (g : List Int) (hk : k = g.length) (hz : zs.length = 225) (hkd : KD es) (hn : es.length ≤ 4096) : Goes Try.prog 1 ⟨hd Try.f8 2, flT nn n c (agV g) (vi (i : Int)) .unk (.ptr 4 1 0 0) (vi (k : Int)) .unk, ⟨flN bss :: (flZ zs :: (agB g ++ flM es)), 5⟩⟩ ⟨hd Try.f8 3, flT nn n c (agV g) (vi (i : Int)) .unk .unk .unk (vi ((0 : Nat) : Int)), ⟨flN bss :: (flZ (seeS zs es) :: agB g), 3⟩⟩ := by
  match g with
  | [] =>
    have h := f3eN bss nn n c zs es (i : Int) (k : Int)
    rw [decide_eq_false (show ¬ (k : Int) < 0 by omega), decide_eq_true hz, decide_eq_true hkd, Nat.ble_eq_true_of_le hn] at h
    exact ((HO_head hE_fl mixedP rfl h rfl).trans (Goes.ren (P := Try.prog) (B := 1) (σ := [(0, 0), (1, 1)]) (nx := 3) rfl))
  | e :: g =>
    have h := f3eY bss nn n c zs (e :: g) (e :: g).length es (i : Int) (k : Int)
    rw [decide_eq_false (show ¬ (k : Int) < Int.ofNat (e :: g).length by show ¬ (k : Int) < ((e :: g).length : Int); omega), decide_eq_true hz, decide_eq_true hkd, Nat.ble_eq_true_of_le hn] at h
    exact ((HO_head hE_fl mixedP rfl h rfl).trans (Goes.ren (P := Try.prog) (B := 1) (σ := [(0, 0), (1, 1), (2, 2)]) (nx := 3) rfl))
theorem rch_at {zs : List Int} {m : List Nat} (h : zR zs m) {a : Nat} (ha : a ≤ 6) : rchF zs 3 (a : Int) = (cg a m : Int) := by
  have hs : survive_is_0 3 (a : Int) = true := is_iff.2 ⟨by omega, by omega⟩
  unfold rchF
  rw [hs, cond_true, show svI 3 (a : Int) = 21 + a from svI_nat 3 a, h.2 a ha]
theorem died_at {zs : List Int} {m : List Nat} (h : zR zs m) (hm : m.length ≤ 100) {k : Nat} (hk : k < 6) : decide (diedF zs 3 (k : Int) < 0) = false := by
  unfold diedF
  have e : IntKind.i64.wrap ((k : Int) + 1) = ((k + 1 : Nat) : Int) := up1_nat (by omega)
  have hs : survive_is_0 3 ((k + 1 : Nat) : Int) = true := is_iff.2 ⟨by omega, by omega⟩
  have h1 := cg_anti k m
  have h2 := cg_le k m
  rw [e, hs, cond_true, rch_at h (show k ≤ 6 by omega), rch_at h (show k + 1 ≤ 6 by omega), wr64 _ (by omega) (by omega)]
  exact decide_eq_false (by omega)
theorem g4 (bss : List (List Bool)) (nn : Bool) (n : Nat) (c : Option Nat) (zs : List Int) (m : List Nat) (i k : Nat) (g : List Int) (hk : k < 6) (hz : zR zs m) (hm : m.length ≤ 100) (hdd : decide (diedF zs 3 (k : Int) < 0) = false) : Goes Try.prog 1 ⟨hd Try.f8 3, flT nn n c (agV g) (vi (i : Int)) .unk .unk .unk (vi (k : Int)), ⟨flN bss :: (flZ zs :: agB g), 3⟩⟩ ⟨hd Try.f8 3, flT nn n c (agV g) (vi (i : Int)) .unk .unk .unk (vi ((k + 1 : Nat) : Int)), ⟨flN bss :: (flZ zs :: agB g), 3⟩⟩ := by
  match g with
  | [] =>
    have h := f4N bss nn n c zs (i : Int) (k : Int)
    rw [decide_eq_true (show (k : Int) < 6 by omega), decide_eq_true hz.1, up1_nat (by omega), rch_at hz (show k ≤ 6 by omega), rch_at hz (show k + 1 ≤ 6 by omega), decide_eq_false (show ¬ (cg k m : Int) < (cg (k + 1) m : Int) by have := cg_anti k m; omega), hdd] at h
    exact ((HO_head hE_fl mixedP rfl h rfl).trans (Goes.ren (P := Try.prog) (B := 1) (σ := [(0, 0), (1, 1)]) (nx := 3) rfl))
  | e :: g =>
    have h := f4Y bss nn n c zs (e :: g) (e :: g).length (i : Int) (k : Int)
    rw [decide_eq_true (show (k : Int) < 6 by omega), decide_eq_true hz.1, up1_nat (by omega), rch_at hz (show k ≤ 6 by omega), rch_at hz (show k + 1 ≤ 6 by omega), decide_eq_false (show ¬ (cg k m : Int) < (cg (k + 1) m : Int) by have := cg_anti k m; omega), hdd] at h
    exact ((HO_head hE_fl mixedP rfl h rfl).trans (Goes.ren (P := Try.prog) (B := 1) (σ := [(0, 0), (1, 1), (2, 2)]) (nx := 3) rfl))
theorem g4e (bss : List (List Bool)) (nn : Bool) (n : Nat) (c : Option Nat) (zs : List Int) (i : Nat) (g : List Int) (hi : i ≤ 4294967296) : Goes Try.prog 1 ⟨hd Try.f8 3, flT nn n c (agV g) (vi (i : Int)) .unk .unk .unk (vi ((6 : Nat) : Int)), ⟨flN bss :: (flZ zs :: agB g), 3⟩⟩ ⟨hd Try.f8 0, flT nn n c (agV g) (vi ((i + 1 : Nat) : Int)) .unk .unk .unk .unk, ⟨flN bss :: (flZ zs :: agB g), 3⟩⟩ := by
  match g with
  | [] =>
    have h := f4eN bss nn n c zs (i : Int) ((6 : Nat) : Int)
    rw [decide_eq_false (show ¬ ((6 : Nat) : Int) < 6 by omega), up1_nat hi] at h
    exact ((HO_head hE_fl mixedP rfl h rfl).trans (Goes.ren (P := Try.prog) (B := 1) (σ := [(0, 0), (1, 1)]) (nx := 3) rfl))
  | e :: g =>
    have h := f4eY bss nn n c zs (e :: g) (e :: g).length (i : Int) ((6 : Nat) : Int)
    rw [decide_eq_false (show ¬ ((6 : Nat) : Int) < 6 by omega), up1_nat hi] at h
    exact ((HO_head hE_fl mixedP rfl h rfl).trans (Goes.ren (P := Try.prog) (B := 1) (σ := [(0, 0), (1, 1), (2, 2)]) (nx := 3) rfl))
theorem g_mid (gd gr : List Int) (x : Int) : (gd ++ x :: gr).getD gd.length 0 = x ∧ ∀ v, (gd ++ x :: gr).set gd.length v = gd ++ v :: gr := by
  refine ⟨by simp [List.getD_eq_getElem?_getD], fun v => ?_⟩
  rw [List.set_append_right _ _ (Nat.le_refl _), Nat.sub_self]
  rfl
theorem g3 (bss : List (List Bool)) (nn : Bool) (n : Nat) (c : Option Nat) (zs : List Int) (es : List KV) (i : Nat) (gd gr : List Int) (x : Int) (hb : i < bss.length) (hi : i < n) (hl : (gd ++ x :: gr).length ≤ 20) (hx : -1 ≤ x ∧ x ≤ 7) (hkd : KD es) :
    Goes Try.prog 1 ⟨hd Try.f8 2, flT nn n c (agV (gd ++ x :: gr)) (vi (i : Int)) .unk (.ptr 4 1 0 0) (vi (gd.length : Int)) .unk, ⟨flN bss :: (flZ zs :: (agB (gd ++ x :: gr) ++ flM es)), 5⟩⟩ ⟨hd Try.f8 2, flT nn n c (agV (gd ++ -1 :: gr)) (vi (i : Int)) .unk (.ptr 4 1 0 0) (vi ((gd.length + 1 : Nat) : Int)) .unk, ⟨flN bss :: (flZ zs :: (agB (gd ++ -1 :: gr) ++ flM es)), 5⟩⟩ ∨ (0 ≤ x ∧ Goes Try.prog 1 ⟨hd Try.f8 2, flT nn n c (agV (gd ++ x :: gr)) (vi (i : Int)) .unk (.ptr 4 1 0 0) (vi (gd.length : Int)) .unk, ⟨flN bss :: (flZ zs :: (agB (gd ++ x :: gr) ++ flM es)), 5⟩⟩ ⟨hd Try.f8 2, flT nn n c (agV (gd ++ min (x + 1) 7 :: gr)) (vi (i : Int)) .unk (.ptr 4 1 0 0) (vi ((gd.length + 1 : Nat) : Int)) .unk, ⟨flN bss :: (flZ zs :: (agB (gd ++ min (x + 1) 7 :: gr) ++ flM (addH es 0 0 3 (min (x + 1) 7)))), 5⟩⟩) := by
  have hq := qi_ok hi
  have hlen : gd.length < (gd ++ x :: gr).length := by simp
  have hl1 : ∀ v : Int, (gd ++ v :: gr).length = (gd ++ x :: gr).length := fun v => by simp
  obtain ⟨m1, m2⟩ := g_mid gd gr x
  have hV : ∀ v : Int, agV (gd ++ v :: gr) = .sl true 2 1 0 1 (gd ++ x :: gr).length none ∧ agB (gd ++ v :: gr) = [flG 2 (gd ++ v :: gr)] := fun v => by
    cases gd with
    | nil => exact ⟨by simp [agV], rfl⟩
    | cons e gd => exact ⟨by simp [agV], rfl⟩
  have h := f3 bss nn n c zs (gd ++ x :: gr) (gd ++ x :: gr).length es i (i : Int) (gd.length : Int)
  rw [hq.1, hq.2.1, hq.2.2, iz_nat, Nat.add_zero, m1, Int.toNat_natCast, decide_eq_true (show (gd.length : Int) < Int.ofNat (gd ++ x :: gr).length by show (gd.length : Int) < ((gd ++ x :: gr).length : Int); omega), decide_eq_true (show 0 ≤ (gd.length : Int) by omega), decide_eq_true hlen, wr64 (x + 1) (by omega) (by omega), m2, m2, (g_mid gd gr (min (x + 1) 7)).1, hl1 (min (x + 1) 7), decide_eq_true hlen, up1_nat (by omega), hkd.keys] at h
  rw [(hV x).1, (hV x).2, (hV (-1)).1, (hV (-1)).2, (hV (min (x + 1) 7)).1, (hV (min (x + 1) 7)).2]
  by_cases hx0 : x < 0
  · rw [decide_eq_true hx0] at h
    exact .inl ((foc 5 i hb).trans ((HO_head hE_fl mixedP rfl h rfl).trans (Goes.ren (P := Try.prog) (B := 1) (σ := [(0, 0), (1, 1), (2, 2), (3, 3), (4, 4)]) (nx := 5) rfl)))
  · rw [decide_eq_false hx0, cond_false] at h
    by_cases hL : (bss.getD i []).length ≤ gd.length
    · rw [decide_eq_true (show Int.ofNat (bss.getD i []).length ≤ (gd.length : Int) by show ((bss.getD i []).length : Int) ≤ (gd.length : Int); omega)] at h
      exact .inl ((foc 5 i hb).trans ((HO_head hE_fl mixedP rfl h rfl).trans (Goes.ren (P := Try.prog) (B := 1) (σ := [(0, 0), (1, 1), (2, 2), (3, 3), (4, 4)]) (nx := 5) rfl)))
    · rw [decide_eq_false (show ¬ Int.ofNat (bss.getD i []).length ≤ (gd.length : Int) by show ¬ ((bss.getD i []).length : Int) ≤ (gd.length : Int); omega), cond_false, decide_eq_true (show gd.length < (bss.getD i []).length by omega)] at h
      cases hv : (bss.getD i []).getD gd.length false with
      | false =>
        rw [hv] at h
        exact .inl ((foc 5 i hb).trans ((HO_head hE_fl mixedP rfl h rfl).trans (Goes.ren (P := Try.prog) (B := 1) (σ := [(0, 0), (1, 1), (2, 2), (3, 3), (4, 4)]) (nx := 5) rfl)))
      | true =>
        rw [hv] at h
        exact .inr ⟨by omega, (foc 5 i hb).trans ((HO_head hE_fl mixedP rfl h rfl).trans (Goes.ren (P := Try.prog) (B := 1) (σ := [(0, 0), (1, 1), (2, 2), (3, 3), (4, 4)]) (nx := 5) rfl))⟩
theorem l4 (bss : List (List Bool)) (nn : Bool) (n : Nat) (c : Option Nat) (m : List Nat) (hm : m.length ≤ 100) (zs : List Int) (hz : zR zs m) (g : List Int) (i : Nat) (hi : i ≤ 4294967296) (K : Gives_ Try.prog Try.f8 1 ⟨hd Try.f8 0, flT nn n c (agV g) (vi ((i + 1 : Nat) : Int)) .unk .unk .unk .unk, ⟨flN bss :: (flZ zs :: agB g), 3⟩⟩ (vb true) ⟨[], 99⟩) : ∀ (j k : Nat), k + j = 6 → Gives_ Try.prog Try.f8 1 ⟨hd Try.f8 3, flT nn n c (agV g) (vi (i : Int)) .unk .unk .unk (vi (k : Int)), ⟨flN bss :: (flZ zs :: agB g), 3⟩⟩ (vb true) ⟨[], 99⟩
  | 0, k, hk => by
    have : k = 6 := by omega
    subst this
    exact (g4e bss nn n c zs i g hi).gives K
  | j + 1, k, hk => (g4 bss nn n c zs m i k g (by omega) hz hm (died_at hz hm (by omega))).gives (l4 bss nn n c m hm zs hz g i hi K j (k + 1) (by omega))
theorem l3 (bss : List (List Bool)) (nn : Bool) (n : Nat) (c : Option Nat) (zs : List Int) (i : Nat) (hb : i < bss.length) (hi : i < n) (hi2 : i ≤ 4294967296) (K : ∀ (g : List Int) (m : List Nat) (zs : List Int), agR g m → zR zs m → g.length ≤ 20 → Gives_ Try.prog Try.f8 1 ⟨hd Try.f8 0, flT nn n c (agV g) (vi ((i + 1 : Nat) : Int)) .unk .unk .unk .unk, ⟨flN bss :: (flZ zs :: agB g), 3⟩⟩ (vb true) ⟨[], 99⟩) :
    ∀ (gr : List Int) (rest : List Nat) (gd : List Int) (done pre : List Nat) (es : List KV) (H : List Hd), agR gr rest → agR gd done → pre.length = done.length → Holds es H → (∀ x ∈ H, ∃ a : Int, x = (0, 0, 3, a)) → H.length ≤ gd.length → (∀ a : Nat, 1 ≤ a → a ≤ 6 → cg a done = cg a pre + cnt [3, 0, (a : Int)] H) → (gd ++ gr).length ≤ 20 → zR zs (pre ++ rest) →
      Gives_ Try.prog Try.f8 1 ⟨hd Try.f8 2, flT nn n c (agV (gd ++ gr)) (vi (i : Int)) .unk (.ptr 4 1 0 0) (vi (gd.length : Int)) .unk, ⟨flN bss :: (flZ zs :: (agB (gd ++ gr) ++ flM es)), 5⟩⟩ (vb true) ⟨[], 99⟩
  | [], [], gd, done, pre, es, H, _, hg, hp, hh, hH, hl, hc, hn, hz => by
    rw [List.append_nil] at hz hn ⊢
    have hgl := agR_len hg
    have hz2 := zR_see hz hh hH (by omega) (by omega) hp.symm hc
    exact (g3e bss nn n c zs es i gd.length gd rfl hz.1 hh.1 (by have := holds_len' hh; omega)).gives (l4 bss nn n c done (by omega) (seeS zs es) hz2 gd i hi2 (K gd done (seeS zs es) hg hz2 hn) 6 0 rfl)
  | x :: gr, y :: rest, gd, done, pre, es, H, hr, hg, hp, hh, hH, hl, hc, hn, hz => by
    obtain ⟨hx, hy, hr⟩ := hr
    have hx' : -1 ≤ x ∧ x ≤ 7 := by rcases hx with rfl | rfl <;> omega
    have hz' : zR zs ((pre ++ [y]) ++ rest) := by rw [List.append_assoc]; exact hz
    rcases g3 bss nn n c zs es i gd gr x hb hi hn hx' hh.1 with h | ⟨h0, h⟩
    · have g := l3 bss nn n c zs i hb hi hi2 K gr rest (gd ++ [-1]) (done ++ [y]) (pre ++ [y]) es H hr (agR_snoc hg (.inl rfl) hy) (by simp [hp]) hh hH (by simp; omega) (fun a h1 h2 => by rw [cg_append, cg_append, hc a h1 h2]; omega) (by simpa using hn) hz'
      rw [List.append_assoc, List.singleton_append, List.length_append, List.length_singleton] at g
      exact h.gives g
    · have hxy : x = (y : Int) := by
        rcases hx with rfl | h
        · omega
        · exact h
      subst hxy
      have hmin : min ((y : Int) + 1) 7 = ((min (y + 1) 7 : Nat) : Int) := by omega
      have hmy : min (y + 1) 7 ≤ 7 := Nat.min_le_right ..
      have hok : OkH 0 0 3 ((min (y + 1) 7 : Nat) : Int) := ⟨by omega, by omega, by omega, by omega⟩
      have g := l3 bss nn n c zs i hb hi hi2 K gr rest (gd ++ [((min (y + 1) 7 : Nat) : Int)]) (done ++ [min (y + 1) 7]) (pre ++ [y]) (addH es 0 0 3 ((min (y + 1) 7 : Nat) : Int)) (H ++ [(0, 0, 3, ((min (y + 1) 7 : Nat) : Int))]) hr (agR_snoc hg (.inr rfl) hmy) (by simp [hp]) (hh.more (by have := agR_len hg; simp at hn; omega) (0, 0, 3, ((min (y + 1) 7 : Nat) : Int))) (fun x hx => by
          rcases List.mem_append.1 hx with h | h
          · exact hH x h
          · exact ⟨_, List.mem_singleton.1 h⟩) (by simp; omega) (fun a h1 h2 => by
          rw [cg_append, cg_append, cnt_append, hc a h1 h2]
          by_cases e : min (y + 1) 7 = a
          · obtain ⟨c1, _⟩ := one_yes (k := [3, 0, (a : Int)]) (x := (0, 0, 3, ((min (y + 1) 7 : Nat) : Int))) (isK_iff.2 ⟨hok, by show [3, cls 0 0, ((min (y + 1) 7 : Nat) : Int)] = _; rw [cls00, e]⟩)
            rw [c1]
            simp only [cg]
            rw [if_pos (by omega), if_neg (by omega)]
            omega
          · have hno : isK [3, 0, (a : Int)] (0, 0, 3, ((min (y + 1) 7 : Nat) : Int)) = false := by
              cases hq : isK [3, 0, (a : Int)] (0, 0, 3, ((min (y + 1) 7 : Nat) : Int)) with
              | false => rfl
              | true =>
                have := (isK_iff.1 hq).2
                unfold keyH at this
                simp only [List.cons.injEq, and_true, true_and] at this
                omega
            obtain ⟨c1, _⟩ := one_no hno
            rw [c1]
            simp only [cg]
            by_cases e2 : a ≤ y
            · rw [if_pos (by omega), if_pos e2]; omega
            · rw [if_neg (by omega), if_neg e2]; omega) (by simpa using hn) hz'
      rw [List.append_assoc, List.singleton_append, List.length_append, List.length_singleton, ← hmin] at g
      exact h.gives g
  | [], _ :: _, _, _, _, _, _, h, _, _, _, _, _, _, _, _ => h.elim
  | _ :: _, [], _, _, _, _, _, h, _, _, _, _, _, _, _, _ => h.elim
theorem l3' (bss : List (List Bool)) (nn : Bool) (n : Nat) (c : Option Nat) (zs : List Int) (i : Nat) (hb : i < bss.length) (hi : i < n) (hi2 : i ≤ 4294967296) (K : ∀ (g : List Int) (m : List Nat) (zs : List Int), agR g m → zR zs m → g.length ≤ 20 → Gives_ Try.prog Try.f8 1 ⟨hd Try.f8 0, flT nn n c (agV g) (vi ((i + 1 : Nat) : Int)) .unk .unk .unk .unk, ⟨flN bss :: (flZ zs :: agB g), 3⟩⟩ (vb true) ⟨[], 99⟩) (g : List Int) (m : List Nat) (hg : agR g m) (hz : zR zs m) (hn : g.length ≤ 20) :
    Gives_ Try.prog Try.f8 1 ⟨hd Try.f8 2, flT nn n c (agV g) (vi (i : Int)) .unk (.ptr 4 1 0 0) (vi ((0 : Nat) : Int)) .unk, ⟨flN bss :: (flZ zs :: (agB g ++ flM [])), 5⟩⟩ (vb true) ⟨[], 99⟩ :=
  l3 bss nn n c zs i hb hi hi2 K g m [] [] [] [] [] hg trivial rfl holds_nil (fun _ h => (by cases h)) (Nat.le_refl _) (fun a _ _ => rfl) hn hz
theorem l2 (bss : List (List Bool)) (nn : Bool) (n : Nat) (c : Option Nat) (i : Nat) (hb : i < bss.length) (hi : i < n) (hi2 : i ≤ 4294967296) (hL : (bss.getD i []).length ≤ 20) (K : ∀ (g : List Int) (m : List Nat) (zs : List Int), agR g m → zR zs m → g.length ≤ 20 → Gives_ Try.prog Try.f8 1 ⟨hd Try.f8 0, flT nn n c (agV g) (vi ((i + 1 : Nat) : Int)) .unk .unk .unk .unk, ⟨flN bss :: (flZ zs :: agB g), 3⟩⟩ (vb true) ⟨[], 99⟩) :
    ∀ (j : Nat) (g : List Int) (m : List Nat) (zs : List Int), (bss.getD i []).length ≤ g.length + j → agR g m → zR zs m → g.length ≤ 20 → Gives_ Try.prog Try.f8 1 ⟨hd Try.f8 1, flT nn n c (agV g) (vi (i : Int)) (vi (g.length : Int)) .unk .unk .unk, ⟨flN bss :: (flZ zs :: agB g), 3⟩⟩ (vb true) ⟨[], 99⟩
  | 0, g, m, zs, hj, hg, hz, hn => (g2e bss nn n c zs i g.length g hb hi (by omega)).gives (l3' bss nn n c zs i hb hi hi2 K g m hg hz hn)
  | j + 1, g, m, zs, hj, hg, hz, hn => by
    by_cases h : g.length < (bss.getD i []).length
    · have hgl := agR_len hg
      have q := l2 bss nn n c i hb hi hi2 hL K j (g ++ [0]) (m ++ [0]) (askF zs 3) (by rw [List.length_append, List.length_singleton]; omega) (agR_snoc hg (.inr rfl) (Nat.zero_le _)) (zR_ask hz (by omega)) (by simp; omega)
      rw [List.length_append, List.length_singleton] at q
      exact (g2 bss nn n c zs i g.length g hb hi h hL hz.1 hn).gives q
    · exact (g2e bss nn n c zs i g.length g hb hi (by omega)).gives (l3' bss nn n c zs i hb hi hi2 K g m hg hz hn)
theorem l1 (bss : List (List Bool)) (nn : Bool) (n : Nat) (c : Option Nat) (hbn : bss.length = n) (hn : n ≤ 12) : ∀ (j i : Nat) (g : List Int) (m : List Nat) (zs : List Int), i + j = n → agR g m → zR zs m → g.length ≤ 20 → Gives_ Try.prog Try.f8 1 ⟨hd Try.f8 0, flT nn n c (agV g) (vi (i : Int)) .unk .unk .unk .unk, ⟨flN bss :: (flZ zs :: agB g), 3⟩⟩ (vb true) ⟨[], 99⟩
  | 0, i, g, m, zs, hi, hg, hz, hl => by
    have hgl := agR_len hg
    have hr := rch_at hz (show 0 ≤ 6 by omega)
    rw [cg_zero] at hr
    have hr : rchF zs 3 0 = (m.length : Int) := hr
    match g with
    | [] =>
      have h := f1eN bss nn n c zs (i : Int)
      rw [hr, ← hgl, decide_eq_false (show ¬ (i : Int) < Int.ofNat n by show ¬ (i : Int) < (n : Int); omega), decide_eq_true hz.1] at h
      exact HO_ret hE_fl mixedP rfl h rfl
    | e :: g =>
      have h := f1eY bss nn n c zs (e :: g) (e :: g).length (i : Int)
      rw [hr, ← hgl, show Int.ofNat (e :: g).length = ((e :: g).length : Int) from rfl, beq_self_eq_true, decide_eq_false (show ¬ (i : Int) < Int.ofNat n by show ¬ (i : Int) < (n : Int); omega), decide_eq_true hz.1] at h
      exact HO_ret hE_fl mixedP rfl h rfl
  | j + 1, i, g, m, zs, hi, hg, hz, hl => by
    have hin : i < n := by omega
    have hb : i < bss.length := by omega
    have hq := qi_ok hin
    have hlt : decide ((i : Int) < Int.ofNat n) = true := decide_eq_true (by show (i : Int) < (n : Int); omega)
    by_cases hL : (bss.getD i []).length ≤ 20
    · exact (g1 bss nn n c zs i g hb hin hL).gives (l2 bss nn n c i hb hin (by omega) hL (fun g m zs h1 h2 h3 => l1 bss nn n c hbn hn j (i + 1) g m zs (by omega) h1 h2 h3) 20 g m zs (by omega) hg hz hl)
    · have hL' : decide ((20 : Int) < Int.ofNat (bss.getD i []).length) = true := decide_eq_true (by show (20 : Int) < ((bss.getD i []).length : Int); omega)
      match g with
      | [] =>
        have h := f1bN bss nn n c zs i (i : Int)
        rw [hlt, hq.1, hq.2.1, hq.2.2, hL'] at h
        exact (foc 3 i hb).gives (HO_ret hE_fl mixedP rfl h rfl)
      | e :: g =>
        have h := f1bY bss nn n c zs (e :: g) (e :: g).length i (i : Int)
        rw [hlt, hq.1, hq.2.1, hq.2.2, hL'] at h
        exact (foc 3 i hb).gives (HO_ret hE_fl mixedP rfl h rfl)
theorem falls_any (A : Option Addr) (n c : Nat) (bss : List (List Bool)) (i : LI) (w : World) (hin : NestIn w A n [.bools bss] i) (hnc : n ≤ c) (hbn : bss.length = n) : Gives 8 #[.slice A n c] w (.bool true) := by
  have hm : MRel (fun _ => i) ⟨[flN bss], 1⟩ w := mrel_one (hin.ok (fun _ => i) 1)
  have hx : AV.rels (fun _ => i) 1 [.sl false 0 1 0 1 n (some c)] [.slice A n c] := by
    simp only [AV.rels]
    exact ⟨_, _, rfl, hin.arg (ρ := fun _ => i) (by omega) hnc 1 1, rfl⟩
  refine gives_true (c := bodyOf Try.f8) (m' := ⟨[], 99⟩) Try.func8 rfl ?_ rfl hm hx
  by_cases hn : 12 < n
  · have he := fl_big bss false n (some c)
    rw [decide_eq_true (show (12 : Int) < Int.ofNat n by show (12 : Int) < (n : Int); omega)] at he
    exact FO_ret hE_fl mixedP rfl rfl he rfl
  · have he := fl_in bss false n (some c)
    rw [decide_eq_false (show ¬ (12 : Int) < Int.ofNat n by show ¬ (12 : Int) < (n : Int); omega)] at he
    exact Goes.gives ((FO_head (f := Try.f8) (c := bodyOf Try.f8) (cuts := flC 9) (ns := []) (top := 99) hE_fl mixedP rfl rfl he rfl).trans (Goes.ren (P := Try.prog) (B := 1) (σ := [(0, 0), (1, 1)]) (nx := 3) rfl)) (l1 bss false n (some c) hbn (by omega) n 0 [] [] (List.replicate 225 0) (by omega) trivial zR_new (Nat.zero_le _))
set_option maxRecDepth 100000 in
theorem surviveFalls_lifted (os : Os) (started : os.Started) (H : Type) (enc : TypeId × Value → H) :
    ReturnsInHanded {} Try.checked os 8 .any (Rows.surviveFallsSpec.pre6 enc Try.prog Try.f8 Rows.surviveFallsRow.domain false) (Rows.surviveFallsSpec.post enc Try.prog Try.f8 false true false false) := by
  refine returnsInHanded_of_change (C := Try.checked) Try.own started (by kernel_rfl) Try.func8
    (ChangeSpec.witness6 (enc := enc) (C := Try.checked) false ⟨#[], #[.slice none 0 0], []⟩ 8 (by kernel_rfl) (by kernel_rfl) (by kernel_rfl) (by kernel_rfl)) ?_
  intro W base args ds gs before hval0 hW hcnd hsized
  have hval : ∀ (j : Nat) t v, Try.f8.params[j]? = some t → args[j]? = some v → Value.okWide Try.prog W .any base t v := hval0
  have hW' := hW
  obtain ⟨p, q, hA0, hV, rfl, hfz, hnd⟩ := hW
  have hA : DataW.TrodAll enc Try.prog W 0 (fun _ => true) true Try.f8.params.toList args.toList ds p := hA0
  rw [Try.params8] at hA hval
  obtain ⟨v0, d0, rfl, rfl, h0⟩ := trodAll_one hA
  obtain ⟨A, n, c, bss, i, rfl, hnc, hc, hbn, hin⟩ := open_boolss Try.underlying80 Try.underlying83 Try.underlying4 (by kernel_rfl) (by kernel_rfl) (by kernel_rfl) (by kernel_rfl) (hval 0 _ v0 rfl rfl) h0
  refine Gives.use (falls_any A n c bss i W hin hnc hbn) fun W' hb => ?_
  exact ⟨_, rfl, law_post Try.laidOut (by kernel_rfl) (by kernel_rfl) Try.underlying4 rfl hW' ⟨rfl, rfl, rfl⟩ hb⟩
theorem surviveFalls_holds : Rows.SurviveFallsSaid :=
  OpenClaim.holds_of_wide 8 Try.f8 rfl rfl rfl rfl rfl rfl rfl ⟨rfl, rfl, rfl, rfl, rfl⟩ rfl rfl rfl rfl rfl (by kernel_rfl) Try.func8 (by kernel_rfl)
    (of_decide_eq_true (by kernel_rfl)) (by unfold Func.isWrapper; first | (rw [if_pos (by decide +kernel)]; kernel_rfl) | (rw [if_neg (by decide +kernel)]; exact ⟨rfl, rfl⟩))
    (fun os started H enc _ => surviveFalls_lifted os started H enc)
end Go.Proofs.Ytbjealobiblabaa
