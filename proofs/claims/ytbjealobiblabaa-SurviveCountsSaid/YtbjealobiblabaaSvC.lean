/-
  The statement SurviveCounts of layer 30 (survive), proved.
-/
import Derived.Test.YtbjealobiblabaaSvCe
namespace Go.Proofs.Ytbjealobiblabaa
open Go Go.ChangeShapes Go.WideShapes Go.ChangeAt Go.RowKit Go.Deep
set_option maxRecDepth 100000
-- The plain law
theorem get_snoc {ws : List Int} {x : Int} {k : Nat} (h : k < ws.length) : (ws ++ [x]).getD k 0 = ws.getD k 0 := by
  rw [List.getD_eq_getElem?_getD, List.getElem?_append_left h, List.getD_eq_getElem?_getD]
theorem get_last {ws : List Int} {x : Int} : (ws ++ [x]).getD ws.length 0 = x := by
  rw [List.getD_eq_getElem?_getD, List.getElem?_append_right (Nat.le_refl _), Nat.sub_self]; rfl
theorem set_snoc {ws : List Int} {x v : Int} {k : Nat} (h : k < ws.length) : (ws ++ [x]).set k v = ws.set k v ++ [x] := List.set_append_left _ _ h
theorem set_last {ws : List Int} {x v : Int} : (ws ++ [x]).set ws.length v = ws ++ [v] := by
  rw [List.set_append_right _ _ (Nat.le_refl _), Nat.sub_self]; rfl
theorem set_get {zs : List Int} {i j : Nat} {v : Int} (h : i < zs.length) : (zs.set i v).getD j 0 = if i = j then v else zs.getD j 0 := by
  rw [List.getD_eq_getElem?_getD, List.getElem?_set, List.getD_eq_getElem?_getD]
  by_cases e : i = j
  · rw [if_pos e, if_pos e, if_pos h]; rfl
  · rw [if_neg e, if_neg e]
/-- What the program and the document have: the same, and how many censuses. -/
structure SR (zs ws : List Int) (b : Int) (sn : Nat) : Prop where
  len : ws.length = 224
  eq : zs = ws ++ [(sn : Int)]
  bnd : ∀ k, k < 224 → 0 ≤ ws.getD k 0 ∧ ws.getD k 0 ≤ b
theorem SR.zlen {zs ws : List Int} {b : Int} {sn : Nat} (h : SR zs ws b sn) : zs.length = 225 := by rw [h.eq, List.length_append, h.len]; rfl
theorem SR.up {zs ws : List Int} {b b' : Int} {sn : Nat} (h : SR zs ws b sn) (hb : b ≤ b') : SR zs ws b' sn := ⟨h.len, h.eq, fun k hk => ⟨(h.bnd k hk).1, Int.le_trans (h.bnd k hk).2 hb⟩⟩
theorem SR.new : SR (List.replicate 225 0) (List.replicate 224 0) 0 0 := ⟨by simp, by decide, fun k hk => by
  rw [List.getD_eq_getElem?_getD, List.getElem?_replicate, if_pos hk]; exact ⟨Int.le_refl _, Int.le_refl _⟩⟩
theorem SR.ask {zs ws : List Int} {b : Int} {sn : Nat} (h : SR zs ws b sn) (hb : b ≤ 1152921504606846976) {x : Int} (hx : survive_is_0 x 0 = true) : SR (askF zs x) (ws.set (svA x) (IntKind.i64.wrap (ws.getD (svA x) 0 + 1))) (b + 1) sn := by
  have hl := svA_lt hx
  obtain ⟨b1, b2⟩ := h.bnd _ hl
  refine ⟨by rw [List.length_set]; exact h.len, ?_, fun k hk => ?_⟩
  · unfold askF
    rw [hx, cond_true, h.eq, get_snoc (by rw [h.len]; exact hl), set_snoc (by rw [h.len]; exact hl)]
  · rw [set_get (by rw [h.len]; exact hl)]
    obtain ⟨c1, c2⟩ := h.bnd k hk
    by_cases e : svA x = k
    · rw [if_pos e, wr64 _ (by omega) (by omega)]; omega
    · rw [if_neg e]; omega
theorem ask_no {zs : List Int} {x : Int} (hx : survive_is_0 x 0 = false) : askF zs x = zs := by unfold askF; rw [hx]; rfl
def gR (e : KV) : Prop := (0 ≤ kA e ∧ kA e < 32) ∧ 0 ≤ kC e ∧ 0 ≤ kD e ∧ kD e ≤ MX
theorem see_cond {e : KV} (h : gR e) : (bif decide (1 ≤ kC e) then survive_is_0 (kA e) (kC e) else false) = rowP e := by
  unfold rowP
  cases h1 : decide (1 ≤ kC e) with
  | false => rfl
  | true =>
    rw [cond_true, cond_true, Bool.eq_iff_iff, is_iff, decide_eq_true_eq]
    obtain ⟨⟨a1, a2⟩, a3, _⟩ := h
    omega
theorem row_lt {e : KV} (h : gR e) (hp : rowP e = true) : svI (kA e) (kC e) < 224 := by
  rw [← see_cond h] at hp
  cases h1 : decide (1 ≤ kC e) with
  | false => rw [h1] at hp; cases hp
  | true => rw [h1, cond_true] at hp; exact svI_lt hp
theorem seeF_snoc : ∀ (l : List KV) (ws : List Int) (x : Int), ws.length = 224 → (∀ e ∈ l, gR e) → seeF (ws ++ [x]) l = rseeF ws l ++ [x]
  | [], _, _, _, _ => rfl
  | e :: l, ws, x, hw, hg => by
    have he := hg e (List.mem_cons_self ..)
    rw [seeF, rseeF, see_cond he]
    cases hp : rowP e with
    | false => rw [cond_false, cond_false]; exact seeF_snoc l ws x hw fun y hy => hg y (List.mem_cons_of_mem _ hy)
    | true =>
      have hl := row_lt he hp
      rw [cond_true, cond_true, get_snoc (by rw [hw]; exact hl), set_snoc (by rw [hw]; exact hl)]
      exact seeF_snoc l _ x (by rw [List.length_set]; exact hw) fun y hy => hg y (List.mem_cons_of_mem _ hy)
theorem rseeF_bnd : ∀ (l : List KV) (ws : List Int) (b : Int), ws.length = 224 → (∀ e ∈ l, gR e) → (∀ k, k < 224 → 0 ≤ ws.getD k 0 ∧ ws.getD k 0 ≤ b) → b + l.length * MX ≤ 1152921504606846976 → ∀ k, k < 224 → 0 ≤ (rseeF ws l).getD k 0 ∧ (rseeF ws l).getD k 0 ≤ b + l.length * MX
  | [], ws, b, _, _, hb, _ => fun k hk => by
    obtain ⟨g1, g2⟩ := hb k hk
    exact ⟨g1, by show ws.getD k 0 ≤ b + ((0 : Nat) : Int) * MX; omega⟩
  | e :: l, ws, b, hw, hg, hb, hB => fun k hk => by
    have he := hg e (List.mem_cons_self ..)
    have hg' := fun y hy => hg y (List.mem_cons_of_mem e hy)
    obtain ⟨_, _, d1, d2⟩ := he
    simp only [List.length_cons] at hB ⊢
    unfold MX at *
    have h0 : 0 ≤ (l.length : Int) * 67108864 := by omega
    rw [rseeF]
    have key : ∀ ws' : List Int, ws'.length = 224 → (∀ k, k < 224 → 0 ≤ ws'.getD k 0 ∧ ws'.getD k 0 ≤ b + 67108864) → 0 ≤ (rseeF ws' l).getD k 0 ∧ (rseeF ws' l).getD k 0 ≤ b + ((l.length + 1 : Nat) : Int) * 67108864 := fun ws' g1 g2 => by
      have := rseeF_bnd l ws' (b + 67108864) g1 hg' g2 (by unfold MX; omega) k hk
      unfold MX at this
      omega
    cases hp : rowP e with
    | false => exact key ws hw fun k hk => by have := hb k hk; omega
    | true =>
      have hl := row_lt (hg e (List.mem_cons_self ..)) hp
      rw [cond_true]
      refine key _ (by rw [List.length_set]; exact hw) fun j hj => ?_
      rw [set_get (by rw [hw]; exact hl)]
      have g1 := hb _ hl
      have g2 := hb j hj
      by_cases e1 : svI (kA e) (kC e) = j
      · rw [if_pos e1, wr64 _ (by omega) (by omega)]; omega
      · rw [if_neg e1]; omega
theorem rf_len (H : List Hd) : (RF H).length ≤ 3584 := by
  have := rfS_len H 32 0
  unfold RF
  omega
theorem rf_row {es : List KV} {H : List Hd} (h : Holds es H) (hH : H.length ≤ 4096) : ∀ e ∈ RF H, gR e := fun e he => by
  rw [← sort_RF h] at he
  obtain ⟨h1, _, h3, h4, _⟩ := h.row hH he
  exact ⟨h1, h3.1, h4⟩
theorem rf_ok {es : List KV} {H : List Hd} (h : Holds es H) (hH : H.length ≤ 4096) : rowsOk (RF H) = true := List.all_eq_true.2 fun e he => by
  have := (rf_row h hH e he).1
  rw [decide_eq_true this, Bool.or_true]
theorem SR.see {zs ws : List Int} {b : Int} {sn : Nat} (h : SR zs ws b sn) {es : List KV} {H : List Hd} (hh : Holds es H) (hH : H.length ≤ 4096) (hb : b + 3584 * MX ≤ 1152921504606846976) (hs : sn ≤ 4096) : SR (seeS zs es) (rseeF ws (RF H)) (b + 3584 * MX) (sn + 1) := by
  have hl := rf_len H
  refine ⟨by rw [rseeF_len]; exact h.len, ?_, fun k hk => ?_⟩
  · unfold seeS
    rw [sort_RF hh, h.eq]
    have e1 : (ws ++ [(sn : Int)]).getD 224 0 = (sn : Int) := by rw [← h.len]; exact get_last
    have e2 : ∀ v : Int, (ws ++ [(sn : Int)]).set 224 v = ws ++ [v] := fun v => by rw [← h.len]; exact set_last
    rw [e1, e2, wr64 _ (by omega) (by omega), seeF_snoc _ _ _ h.len (rf_row hh hH)]
    rfl
  · have := rseeF_bnd (RF H) ws b h.len (rf_row hh hH) h.bnd (by unfold MX at *; omega) k hk
    unfold MX at *
    omega
theorem hT_congr {c c' : Nat → Bool} (h : ∀ k, k < 6 → c k = c' k) : hT c = hT c' := by
  unfold hT
  rw [h 0 (by omega), h 1 (by omega), h 2 (by omega), h 3 (by omega), h 4 (by omega), h 5 (by omega)]
theorem SR.rch {zs ws : List Int} {b : Int} {sn : Nat} (h : SR zs ws b sn) (x y : Int) : rchF zs x y = rchF ws x y := by
  unfold rchF
  cases hs : survive_is_0 x y with
  | false => rfl
  | true => rw [cond_true, cond_true, h.eq, get_snoc (by rw [h.len]; exact svI_lt hs)]
theorem SR.half {zs ws : List Int} {b : Int} {sn : Nat} (h : SR zs ws b sn) (hb : b ≤ 1152921504606846976) (x : Int) : halfF zs x = rhalfF ws x := by
  unfold halfF rhalfF
  rw [h.rch]
  cases h0 : rchF ws x 0 == 0 with
  | true => rfl
  | false =>
    rw [cond_false, cond_false]
    obtain ⟨⟨h1, h2⟩, _⟩ := is_iff.1 (rch_ne h0)
    have h00 := is_iff.2 ⟨⟨h1, h2⟩, Int.le_refl 0, show (0 : Int) < 7 by omega⟩
    have hn : rchF ws x 0 = ws.getD (svI x 0) 0 := by unfold rchF; rw [h00]; rfl
    obtain ⟨c1, c2⟩ := h.bnd _ (svI_lt h00)
    refine hT_congr fun k hk => ?_
    have hl : svI x ((k + 1 : Nat) : Int) < 224 := svI_lt (is_iff.2 ⟨⟨h1, h2⟩, by omega, by omega⟩)
    obtain ⟨d1, d2⟩ := h.bnd _ hl
    unfold cH cR
    have hz : zs.getD (svI x ((k + 1 : Nat) : Int)) 0 = ws.getD (svI x ((k + 1 : Nat) : Int)) 0 := by rw [h.eq]; exact get_snoc (by rw [h.len]; exact hl)
    rw [hz, h.rch, hn, wr64 _ (by omega) (by omega), wr64 _ (by omega) (by omega), decide_eq_decide]
    omega
theorem SR.row {zs ws : List Int} {b : Int} {sn : Nat} (h : SR zs ws b sn) {x : Int} (h1 : 0 ≤ x) (h2 : x < 32) : rowL zs x = List.take 7 (ws.drop (rowI x)) ∧ rowI x + 7 ≤ 224 := by
  have hI : rowI x + 7 ≤ 224 := by
    obtain ⟨y, rfl⟩ := Int.eq_ofNat_of_zero_le h1
    unfold rowI
    rw [addN_eq, addN_eq, mulN_eq]
    omega
  refine ⟨?_, hI⟩
  unfold rowL
  rw [h.eq, List.drop_append_of_le_length (by rw [h.len]; omega), List.take_append_of_le_length (by rw [List.length_drop, h.len]; omega)]
theorem SR.died {zs ws : List Int} {b : Int} {sn : Nat} (h : SR zs ws b sn) {x y : Int} (h1 : -9223372036854775808 ≤ y) (h2 : y ≤ 9223372036854775807) : diedF zs x y = rdF ws x y := by
  unfold diedF rdF
  rw [h.rch, h.rch]
  have e : outD x y = !survive_is_0 x (IntKind.i64.wrap (y + 1)) := by
    have e2 : survive_is_0 x (IntKind.i64.wrap (y + 1)) = true ↔ (0 ≤ x ∧ x < 32) ∧ -1 ≤ y ∧ y ≤ 5 := by
      rw [is_iff]
      by_cases hm : y = 9223372036854775807
      · subst hm
        have : IntKind.i64.wrap (9223372036854775807 + 1) = -9223372036854775808 := by decide
        rw [this]
        omega
      · rw [wr64 _ (by omega) (by omega)]; omega
    unfold outD
    by_cases g1 : x < 0
    · rw [decide_eq_true g1]
      have : survive_is_0 x (IntKind.i64.wrap (y + 1)) = false := by rw [Bool.eq_false_iff]; exact fun hh => by have := e2.1 hh; omega
      rw [this]; rfl
    · by_cases g2 : 31 < x
      · rw [decide_eq_false g1, decide_eq_true g2]
        have : survive_is_0 x (IntKind.i64.wrap (y + 1)) = false := by rw [Bool.eq_false_iff]; exact fun hh => by have := e2.1 hh; omega
        rw [this]; rfl
      · by_cases g3 : y < -1
        · rw [decide_eq_false g1, decide_eq_false g2, decide_eq_true g3]
          have : survive_is_0 x (IntKind.i64.wrap (y + 1)) = false := by rw [Bool.eq_false_iff]; exact fun hh => by have := e2.1 hh; omega
          rw [this]; rfl
        · by_cases g4 : 5 < y
          · rw [decide_eq_false g1, decide_eq_false g2, decide_eq_false g3, decide_eq_true g4]
            have : survive_is_0 x (IntKind.i64.wrap (y + 1)) = false := by rw [Bool.eq_false_iff]; exact fun hh => by have := e2.1 hh; omega
            rw [this]; rfl
          · rw [decide_eq_false g1, decide_eq_false g2, decide_eq_false g3, decide_eq_false g4]
            have : survive_is_0 x (IntKind.i64.wrap (y + 1)) = true := e2.2 (by omega)
            rw [this]; rfl
  rw [e]
  cases survive_is_0 x (IntKind.i64.wrap (y + 1)) <;> rfl
theorem site_no {x : Int} : (bif decide (x < 0) then true else decide (31 < x)) = !survive_is_0 x 0 := by
  cases hs : survive_is_0 x 0 with
  | true =>
    obtain ⟨⟨h1, h2⟩, _⟩ := is_iff.1 hs
    rw [decide_eq_false (show ¬ x < 0 by omega), decide_eq_false (show ¬ 31 < x by omega)]; rfl
  | false =>
    by_cases h1 : x < 0
    · rw [decide_eq_true h1]; rfl
    · by_cases h2 : 31 < x
      · rw [decide_eq_false h1, decide_eq_true h2]; rfl
      · rw [is_iff.2 ⟨⟨by omega, by omega⟩, Int.le_refl 0, show (0 : Int) < 7 by omega⟩] at hs; cases hs
-- The run
theorem Goes.maskV {B : Nat} {todo : List Item} {tm : List AV} {m : MS} (live : List Nat) : Goes Try.prog B ⟨todo, tm, m⟩ ⟨todo, maskA live 0 tm, m⟩ := fun b cs ρ a w ht hm hB => ⟨ρ, a, w, Steps.refl _ _, maskA_rels 0 ht, rfl, hm, Moves.refl hB⟩
abbrev BB : Int := 20 + 3584 * MX
theorem hE0 : ESound Try.prog (envOf (L_sc Try.prog Try.f45 Try.f47 e_rrN e_rsee0 e_rowI)) := hE_sc ok_rrN ok_rsee0 ok_rowI
theorem hEY (l : List KV) : ESound Try.prog (envOf (L_sc Try.prog Try.f45 Try.f47 (e_rrY l) (e_rsee l) e_rowI)) := hE_sc (ok_rrY l) (ok_rsee l) ok_rowI
theorem hEH : ESound Try.prog (envOf ((1000004, e_hint) :: L_sc Try.prog Try.f45 Try.f47 e_rrN e_rsee0 e_rowI)) := env_cons ok_hint hE0
theorem hEO : ESound Try.prog (envOf ((1000004, e_hint) :: L_sc Try.prog Try.f45 Try.f47 e_rrN e_rsee0 e_rowO)) := env_cons ok_hint (hE_sc ok_rrN ok_rsee0 ok_rowO)
theorem ld (zss : List (List Int)) (hss : List (List H5)) (nn : Bool) (n : Nat) (c : Option Nat) (s a : Int) (ha : -9223372036854775808 ≤ a ∧ a ≤ 9223372036854775807) (zs ws : List Int) (b : Int) (h : SR zs ws b n) (hb : b ≤ 1152921504606846976) : ∀ (j k : Nat), k + j = 32 → Gives_ Try.prog Try.f9 1 ⟨hd Try.f9 3, scT nn n c s a .unk .unk .unk .unk (vi (k : Int)), ⟨aN zss hss :: [sZ zs, sW ws], 3⟩⟩ (vb true) ⟨[], 99⟩
  | 0, k, hk => by
    have : k = 32 := by omega
    subst this
    have he := c_de zss hss nn n c s a zs ws ((32 : Nat) : Int)
    rw [expl_whole h.len, conj_tt (by
      simp only [site_no, h.rch, h.died ha.1 ha.2, h.half hb, decide_eq_true h.zlen, decide_eq_true h.len, beq_self_eq_true]
      rw [decide_eq_true (show 224 < zs.length by rw [h.zlen]; omega), show zs.getD 224 0 = (n : Int) by rw [h.eq, ← h.len]; exact get_last]
      cases survive_is_0 s 0 <;> simp)] at he
    exact HO_ret hEO mixedP rfl he rfl
  | j + 1, k, hk => by
    have he := c_d zss hss nn n c s a zs ws (k : Int)
    obtain ⟨r1, r2⟩ := h.row (x := (k : Int)) (by omega) (by omega)
    rw [expl_whole h.len, conj_tt (by
      simp only [h.half hb, decide_eq_true h.zlen, decide_eq_true h.len, bne_self_eq_false, decide_eq_true (show (k : Int) < 32 by omega), decide_eq_true (show 0 ≤ (k : Int) by omega), decide_eq_true (show (k : Int).toNat < 32 by omega), decide_eq_true r1, Nat.ble_eq_true_of_le (show rowI (k : Int) + 7 ≤ ws.length by rw [h.len]; exact r2)]
      rfl), up1_nat (by omega)] at he
    exact ((HO_head hEH mixedP rfl he rfl).trans (Goes.ren (P := Try.prog) (B := 1) (σ := [(0, 0), (1, 1), (2, 2)]) (nx := 3) rfl)).gives (ld zss hss nn n c s a ha zs ws b h hb j (k + 1) (by omega))
theorem lc (zss : List (List Int)) (hss : List (List H5)) (nn : Bool) (n : Nat) (c : Option Nat) (s a : Int) (zs ws : List Int) (i : Nat) (hi : i < n) (hh : hss.length = n) (hL : (hss.getD i []).length ≤ 20) (b : Int) (hb : b + 3584 * MX ≤ 1152921504606846976) (h : SR zs ws b i) (hi2 : i ≤ 12)
    (K : ∀ zs ws : List Int, SR zs ws (b + 3584 * MX) (i + 1) → Gives_ Try.prog Try.f9 1 ⟨hd Try.f9 0, scT nn n c s a (vi ((i + 1 : Nat) : Int)) .unk .unk .unk .unk, ⟨aN zss hss :: [sZ zs, sW ws], 3⟩⟩ (vb true) ⟨[], 99⟩) :
    ∀ (j k : Nat) (es : List KV), k + j = (hss.getD i []).length → Holds es (hdI ((hss.getD i []).map fun h => h.1) ((hss.getD i []).map fun h => h.2.1) ((hss.getD i []).map fun h => h.2.2.1) ((hss.getD i []).map fun h => h.2.2.2.1) 0 k) → es.length ≤ k → Gives_ Try.prog Try.f9 1 ⟨hd Try.f9 2, scT nn n c s a (vi (i : Int)) .unk (.ptr 4 1 0 0) (vi (k : Int)) .unk, ⟨aN zss hss :: ([sZ zs, sW ws] ++ sM es), 5⟩⟩ (vb true) ⟨[], 99⟩
  | 0, k, es, hk, hes, hle => by
    have hk : k = (hss.getD i []).length := by omega
    have q1 : decide (0 ≤ (i : Int)) = true := decide_eq_true (by omega)
    have q2 : decide ((i : Int).toNat < n) = true := decide_eq_true (by omega)
    have q3 : Nat.beq (iz (i : Int)) i = true := by rw [iz_nat, Nat.beq_refl]
    have q4 : decide ((k : Int) < Int.ofNat (hss.getD i []).length) = false := decide_eq_false (by show ¬ (k : Int) < ((hss.getD i []).length : Int); omega)
    have q5 : (hss.getD i []).length.ble 4096 = true := Nat.ble_eq_true_of_le (by omega)
    have q6 : (hss.getD i []).length.ble (hss.getD i []).length = true := Nat.ble_eq_true_of_le (Nat.le_refl _)
    have q7 : es.length.ble 4096 = true := Nat.ble_eq_true_of_le (by omega)
    subst hk
    have hn := h.see hes (by rw [hdI_len]; omega) hb (by omega)
    have kk := K _ _ hn
    by_cases hr : RF (hdI ((hss.getD i []).map fun h => h.1) ((hss.getD i []).map fun h => h.2.1) ((hss.getD i []).map fun h => h.2.2.1) ((hss.getD i []).map fun h => h.2.2.2.1) 0 (hss.getD i []).length) = []
    · have he := c_ce0 zss hss nn n c s a zs ws es i (i : Int) ((hss.getD i []).length : Int)
      rw [conj_tt (by
        simp only [q1, q2, q3, q4, q5, q6, q7, List.length_map, decide_eq_true h.zlen, decide_eq_true h.len, decide_eq_true hes.1, decide_eq_true hr]
        rfl), up1_nat (by omega), expl_whole h.len] at he
      rw [hr] at kk
      exact ((foc2 5 i (by omega)).trans ((HO_head hE0 mixedP rfl he rfl).trans (Goes.ren (P := Try.prog) (B := 1) (σ := [(0, 0), (1, 1), (2, 2)]) (nx := 3) rfl))).gives kk
    · have he := c_ce zss hss nn n c s a zs ws es (RF (hdI ((hss.getD i []).map fun h => h.1) ((hss.getD i []).map fun h => h.2.1) ((hss.getD i []).map fun h => h.2.2.1) ((hss.getD i []).map fun h => h.2.2.2.1) 0 (hss.getD i []).length)) i (i : Int) ((hss.getD i []).length : Int)
      have hl0 : Nat.blt 0 (RF (hdI ((hss.getD i []).map fun h => h.1) ((hss.getD i []).map fun h => h.2.1) ((hss.getD i []).map fun h => h.2.2.1) ((hss.getD i []).map fun h => h.2.2.2.1) 0 (hss.getD i []).length)).length = true := Nat.ble_eq_true_of_le (List.length_pos_iff.2 hr)
      have hl1 : (RF (hdI ((hss.getD i []).map fun h => h.1) ((hss.getD i []).map fun h => h.2.1) ((hss.getD i []).map fun h => h.2.2.1) ((hss.getD i []).map fun h => h.2.2.2.1) 0 (hss.getD i []).length)).length.ble 4096 = true := Nat.ble_eq_true_of_le (by have := rf_len (hdI ((hss.getD i []).map fun h => h.1) ((hss.getD i []).map fun h => h.2.1) ((hss.getD i []).map fun h => h.2.2.1) ((hss.getD i []).map fun h => h.2.2.2.1) 0 (hss.getD i []).length); omega)
      rw [conj_tt (by
        simp only [q1, q2, q3, q4, q5, q6, q7, List.length_map, decide_eq_true h.zlen, decide_eq_true h.len, decide_eq_true hes.1, hl0, hl1, rf_ok hes (by rw [hdI_len]; omega), decide_true]
        rfl), up1_nat (by omega), expl_whole h.len, expl_whole (by rw [rseeF_len]; exact h.len)] at he
      exact ((foc2 5 i (by omega)).trans ((HO_head (hEY _) mixedP rfl he rfl).trans (Goes.ren (P := Try.prog) (B := 1) (σ := [(0, 0), (1, 1), (2, 2)]) (nx := 3) rfl))).gives kk
  | j + 1, k, es, hk, hes, hle => by
    have he := c_c zss hss nn n c s a zs ws es i (i : Int) (k : Int)
    have q1 : decide (0 ≤ (i : Int)) = true := decide_eq_true (by omega)
    have q2 : decide ((i : Int).toNat < n) = true := decide_eq_true (by omega)
    have q3 : Nat.beq (iz (i : Int)) i = true := by rw [iz_nat, Nat.beq_refl]
    have q4 : decide ((k : Int) < Int.ofNat (hss.getD i []).length) = true := decide_eq_true (by show (k : Int) < ((hss.getD i []).length : Int); omega)
    rw [conj_tt (by
      simp only [q1, q2, q4, iz_nat, Nat.beq_refl, List.length_map, decide_eq_true (show 0 ≤ (k : Int) by omega), decide_eq_true (show (k : Int).toNat < (hss.getD i []).length by omega), decide_eq_true (show k < (hss.getD i []).length by omega), hes.1.keys]
      rfl), up1_nat (by omega)] at he
    have hm := hes.more (by rw [hdI_len]; omega) (hdAt ((hss.getD i []).map fun h => h.1) ((hss.getD i []).map fun h => h.2.1) ((hss.getD i []).map fun h => h.2.2.1) ((hss.getD i []).map fun h => h.2.2.2.1) k)
    have e1 : hdI ((hss.getD i []).map fun h => h.1) ((hss.getD i []).map fun h => h.2.1) ((hss.getD i []).map fun h => h.2.2.1) ((hss.getD i []).map fun h => h.2.2.2.1) 0 k ++ [hdAt ((hss.getD i []).map fun h => h.1) ((hss.getD i []).map fun h => h.2.1) ((hss.getD i []).map fun h => h.2.2.1) ((hss.getD i []).map fun h => h.2.2.2.1) k] = hdI ((hss.getD i []).map fun h => h.1) ((hss.getD i []).map fun h => h.2.1) ((hss.getD i []).map fun h => h.2.2.1) ((hss.getD i []).map fun h => h.2.2.2.1) 0 (k + 1) := by
      unfold hdI
      rw [List.range'_concat, List.map_append]
      simp
    rw [e1] at hm
    simp only [iz_nat] at he
    exact ((foc2 5 i (by omega)).trans ((HO_head hE0 mixedP rfl he rfl).trans (Goes.ren (P := Try.prog) (B := 1) (σ := [(0, 0), (1, 1), (2, 2), (3, 3), (4, 4)]) (nx := 5) rfl))).gives (lc zss hss nn n c s a zs ws i hi hh hL b hb h hi2 K j (k + 1) _ (by omega) hm (Nat.le_trans (addH_len _ _ _ _ _) (Nat.succ_le_succ hle)))
theorem lb (zss : List (List Int)) (hss : List (List H5)) (nn : Bool) (n : Nat) (c : Option Nat) (s a : Int) (i : Nat) (hi : i < n) (hz : zss.length = n) (hL : (zss.getD i []).length ≤ 20) (b : Int) (hb : b + 20 ≤ 1152921504606846976) (hi2 : i ≤ 12)
    (K : ∀ zs ws : List Int, SR zs ws (b + 20) i → Gives_ Try.prog Try.f9 1 ⟨hd Try.f9 2, scT nn n c s a (vi (i : Int)) .unk (.ptr 4 1 0 0) (vi ((0 : Nat) : Int)) .unk, ⟨aN zss hss :: ([sZ zs, sW ws] ++ sM []), 5⟩⟩ (vb true) ⟨[], 99⟩) :
    ∀ (j k : Nat) (zs ws : List Int), k + j = (zss.getD i []).length → SR zs ws (b + (k : Int)) i → Gives_ Try.prog Try.f9 1 ⟨hd Try.f9 1, scT nn n c s a (vi (i : Int)) (vi (k : Int)) .unk .unk .unk, ⟨aN zss hss :: [sZ zs, sW ws], 3⟩⟩ (vb true) ⟨[], 99⟩
  | 0, k, zs, ws, hk, h => by
    have he := c_be zss hss nn n c s a zs ws i (i : Int) (k : Int)
    have q1 : decide (0 ≤ (i : Int)) = true := decide_eq_true (by omega)
    have q2 : decide ((i : Int).toNat < n) = true := decide_eq_true (by omega)
    have q3 : Nat.beq (iz (i : Int)) i = true := by rw [iz_nat, Nat.beq_refl]
    have q4 : decide ((k : Int) < Int.ofNat (zss.getD i []).length) = false := decide_eq_false (by show ¬ (k : Int) < ((zss.getD i []).length : Int); omega)
    rw [conj_tt (by simp only [q1, q2, q3, q4]; rfl)] at he
    exact ((foc1 3 i (by omega)).trans ((HO_head hE0 mixedP rfl he rfl).trans ((Goes.maskV [0, 1, 2, 7, 8, 9, 12, 13]).trans (Goes.ren (P := Try.prog) (B := 1) (σ := [(0, 0), (1, 1), (2, 2), (3, 4), (4, 5)]) (nx := 5) rfl)))).gives (K zs ws (h.up (by omega)))
  | j + 1, k, zs, ws, hk, h => by
    have q1 : decide (0 ≤ (i : Int)) = true := decide_eq_true (by omega)
    have q2 : decide ((i : Int).toNat < n) = true := decide_eq_true (by omega)
    have q3 : Nat.beq (iz (i : Int)) i = true := by rw [iz_nat, Nat.beq_refl]
    have q4 : decide ((k : Int) < Int.ofNat (zss.getD i []).length) = true := decide_eq_true (by show (k : Int) < ((zss.getD i []).length : Int); omega)
    have q5 : decide (0 ≤ (k : Int)) = true := decide_eq_true (by omega)
    have q6 : decide ((k : Int).toNat < (zss.getD i []).length) = true := decide_eq_true (by omega)
    have q7 : decide (k < (zss.getD i []).length) = true := decide_eq_true (by omega)
    cases hs : survive_is_0 ((zss.getD i []).getD k 0) 0 with
    | false =>
      have he := c_b0 zss hss nn n c s a zs ws i (i : Int) (k : Int)
      simp only [iz_nat, Nat.add_zero] at he
      rw [conj_tt (by simp only [q1, q2, q3, q4, q5, q6, q7, site_no, hs, decide_eq_true h.zlen, Bool.or_true, Nat.beq_refl]; rfl), up1_nat (by omega), ask_no hs] at he
      exact ((foc1 3 i (by omega)).trans ((HO_head hE0 mixedP rfl he rfl).trans (Goes.ren (P := Try.prog) (B := 1) (σ := [(0, 0), (1, 1), (2, 2)]) (nx := 3) rfl))).gives (lb zss hss nn n c s a i hi hz hL b hb hi2 K j (k + 1) zs ws (by omega) (h.up (by omega)))
    | true =>
      have he := c_b1 zss hss nn n c s a zs ws i (i : Int) (k : Int)
      simp only [iz_nat, Nat.add_zero] at he
      obtain ⟨⟨h1, h2⟩, _⟩ := is_iff.1 hs
      have q8 : decide (0 ≤ (zss.getD i []).getD k 0) = true := decide_eq_true h1
      have q9 : decide (((zss.getD i []).getD k 0).toNat < 32) = true := decide_eq_true (by omega)
      have q10 : decide (addN (addN 0 (mulN ((zss.getD i []).getD k 0).toNat 7)) 0 < ws.length) = true := decide_eq_true (by rw [h.len]; exact svA_lt hs)
      rw [conj_tt (by simp only [q1, q2, q3, q4, q5, q6, q7, q8, q9, q10, site_no, hs, decide_eq_true h.zlen, Bool.or_true, Nat.beq_refl]; rfl), up1_nat (by omega)] at he
      exact ((foc1 3 i (by omega)).trans ((HO_head hE0 mixedP rfl he rfl).trans (Goes.ren (P := Try.prog) (B := 1) (σ := [(0, 0), (1, 1), (2, 2)]) (nx := 3) rfl))).gives (lb zss hss nn n c s a i hi hz hL b hb hi2 K j (k + 1) _ _ (by omega) ((h.ask (by omega) hs).up (by omega)))
theorem la (zss : List (List Int)) (hss : List (List H5)) (nn : Bool) (n : Nat) (c : Option Nat) (s a : Int) (ha : -9223372036854775808 ≤ a ∧ a ≤ 9223372036854775807) (hz : zss.length = n) (hh : hss.length = n) (hn : n ≤ 12) (hL : ∀ k, k < n → (zss.getD k []).length ≤ 20 ∧ (hss.getD k []).length ≤ 20) :
    ∀ (j i : Nat) (zs ws : List Int), i + j = n → SR zs ws ((i : Int) * BB) i → Gives_ Try.prog Try.f9 1 ⟨hd Try.f9 0, scT nn n c s a (vi (i : Int)) .unk .unk .unk .unk, ⟨aN zss hss :: [sZ zs, sW ws], 3⟩⟩ (vb true) ⟨[], 99⟩
  | 0, i, zs, ws, hi, h => by
    have : i = n := by omega
    subst this
    have he := c_ae zss hss nn i c s a zs ws (i : Int)
    rw [decide_eq_false (show ¬ (i : Int) < Int.ofNat i by show ¬ (i : Int) < (i : Int); omega)] at he
    exact ((HO_head hE0 mixedP rfl he rfl).trans ((Goes.maskV [0, 1, 2, 7, 8, 14]).trans (Goes.ren (P := Try.prog) (B := 1) (σ := [(0, 0), (1, 1), (2, 2)]) (nx := 3) rfl))).gives (ld zss hss nn i c s a ha zs ws _ h (by unfold BB MX; omega) 32 0 rfl)
  | j + 1, i, zs, ws, hi, h => by
    have he := c_a zss hss nn n c s a zs ws (i : Int)
    rw [decide_eq_true (show (i : Int) < Int.ofNat n by show (i : Int) < (n : Int); omega)] at he
    have hb : (i : Int) * BB ≤ 12 * BB := by unfold BB MX; omega
    have hB : 12 * BB + BB ≤ 1152921504606846976 := by unfold BB MX; omega
    refine ((HO_head hE0 mixedP rfl he rfl).trans (Goes.ren (P := Try.prog) (B := 1) (σ := [(0, 0), (1, 1), (2, 2)]) (nx := 3) rfl)).gives (lb zss hss nn n c s a i (by omega) hz (hL i (by omega)).1 ((i : Int) * BB) (by unfold BB MX at *; omega) (by omega) (fun zs ws h2 => ?_) _ 0 zs ws (Nat.zero_add _) (by simpa using h))
    exact lc zss hss nn n c s a zs ws i (by omega) hh (hL i (by omega)).2 _ (by unfold BB MX at *; omega) h2 (by omega) (fun zs ws h3 => la zss hss nn n c s a ha hz hh hn hL j (i + 1) zs ws (by omega) (h3.up (by unfold BB MX; omega))) _ 0 [] (Nat.zero_add _) holds_nil (Nat.le_refl _)
theorem counts_any (A : Option Addr) (n c : Nat) (zss : List (List Int)) (hss : List (List H5)) (i : LI) (w : World) (s a : Int) (ha : -9223372036854775808 ≤ a ∧ a ≤ 9223372036854775807) (hin : NestIn w A n [.ints .i64 zss, .heads hss] i) (hnc : n ≤ c) (hz : zss.length = n) (hh : hss.length = n) : Gives 9 #[.slice A n c, .int .i64 s, .int .i64 a] w (.bool true) := by
  have hm : MRel (fun _ => i) ⟨[aN zss hss], 1⟩ w := mrel_one (hin.ok (fun _ => i) 1)
  have hx : AV.rels (fun _ => i) 1 [.sl false 0 2 0 1 n (some c), vi s, vi a] [.slice A n c, .int .i64 s, .int .i64 a] := by
    simp only [AV.rels]
    exact ⟨_, _, rfl, hin.arg (ρ := fun _ => i) (by omega) hnc 2 1, _, _, rfl, by simp only [AV.rel], _, _, rfl, by simp only [AV.rel], rfl⟩
  refine gives_true (c := bodyOf Try.f9) (m' := ⟨[], 99⟩) Try.func9 rfl ?_ rfl hm hx
  cases hf : fewF zss hss n with
  | false =>
    have he := c_few zss hss false n (some c) s a
    rw [hf, decide_eq_true hz, decide_eq_true hh] at he
    exact FO_ret hE0 mixedP rfl rfl he rfl
  | true =>
    have he := c_in zss hss false n (some c) s a
    rw [hf, decide_eq_true hz, decide_eq_true hh] at he
    obtain ⟨h1, h2⟩ := few_true hf
    exact Goes.gives ((FO_head (f := Try.f9) (c := bodyOf Try.f9) (cuts := scC 19) (ns := []) (top := 99) hE0 mixedP rfl rfl he rfl).trans (Goes.ren (P := Try.prog) (B := 1) (σ := [(0, 0), (1, 1), (2, 2)]) (nx := 3) rfl)) (la zss hss false n (some c) s a ha hz hh h1 h2 n 0 _ _ (Nat.zero_add _) (SR.new.up (by unfold BB MX; omega)))
set_option maxRecDepth 100000 in
theorem surviveCounts_lifted (os : Os) (started : os.Started) (H : Type) (enc : TypeId × Value → H) :
    ReturnsInHanded {} Try.checked os 9 .any (Rows.surviveCountsSpec.pre6 enc Try.prog Try.f9 Rows.surviveCountsRow.domain false) (Rows.surviveCountsSpec.post enc Try.prog Try.f9 false true false false) := by
  refine returnsInHanded_of_change (C := Try.checked) Try.own started (by kernel_rfl) Try.func9
    (ChangeSpec.witness6 (enc := enc) (C := Try.checked) false ⟨#[], #[.slice none 0 0, .int .i64 0, .int .i64 0], []⟩ 8 (by kernel_rfl) (by kernel_rfl) (by kernel_rfl) (by kernel_rfl)) ?_
  intro W base args ds gs before hval0 hW hcnd hsized
  have hval : ∀ (j : Nat) t v, Try.f9.params[j]? = some t → args[j]? = some v → Value.okWide Try.prog W .any base t v := hval0
  have hW' := hW
  obtain ⟨p, q, hA0, hV, rfl, hfz, hnd⟩ := hW
  have hA : DataW.TrodAll enc Try.prog W 0 (fun _ => true) true Try.f9.params.toList args.toList ds p := hA0
  rw [Try.params9] at hA hval
  obtain ⟨v0, v1, v2, d0, d1, d2, p0, p1, p2, rfl, rfl, rfl, h0, h1, h2⟩ := trodAll_three hA
  obtain ⟨A, n, c, zss, hss, i, rfl, hnc, hc, hz, hh, hin⟩ := open_acts Try.underlying89 (show leavesT Try.prog 9 95 = some [74, 22] by kernel_rfl) (by kernel_rfl) Try.underlying74 (by kernel_rfl) (by kernel_rfl) Try.underlying22 Try.underlying3 Try.underlying4 (show leavesT Try.prog 9 50 = some [3, 3, 3, 3, 4] by kernel_rfl) (by kernel_rfl) (hval 0 _ v0 rfl rfl) h0
  obtain ⟨s, rfl, rfl, rfl, ws⟩ := open_int Try.underlying3 (hval 1 _ v1 rfl rfl) h1
  obtain ⟨a, rfl, rfl, rfl, wa⟩ := open_int Try.underlying3 (hval 2 _ v2 rfl rfl) h2
  refine Gives.use (counts_any A n c zss hss i W s a (wf_i64 wa) hin hnc hz hh) fun W' hb => ?_
  exact ⟨_, rfl, law_post Try.laidOut (by kernel_rfl) (by kernel_rfl) Try.underlying4 rfl hW' ⟨rfl, rfl, rfl⟩ hb⟩
theorem surviveCounts_holds : Rows.SurviveCountsSaid :=
  OpenClaim.holds_of_wide 9 Try.f9 rfl rfl rfl rfl rfl rfl rfl ⟨rfl, rfl, rfl, rfl, rfl⟩ rfl rfl rfl rfl rfl (by kernel_rfl) Try.func9 (by kernel_rfl)
    (of_decide_eq_true (by kernel_rfl)) (by unfold Func.isWrapper; first | (rw [if_pos (by decide +kernel)]; kernel_rfl) | (rw [if_neg (by decide +kernel)]; exact ⟨rfl, rfl⟩))
    (fun os started H enc _ => surviveCounts_lifted os started H enc)
end Go.Proofs.Ytbjealobiblabaa
