/-
  What the program's functions hand back.
-/
import Derived.Test.YtmjpikkloofakaaChke
namespace Go.Proofs.Ytmjpikkloofakaa
open Go Go.RowKit Go.Shelf
set_option maxRecDepth 100000
set_option maxHeartbeats 4000000
section
variable (KD ID : List Int) (OT : List Bool) (WS : List Int) (n k : Nat) (c c' : Option Nat)
variable {W ws : List Int} {L0 L1 : List Nat} {j x i : Nat} {r w : Int}
theorem st_d000 (h : OpsIn KD ID OT n) (hj : j < n) (hk1 : (KD.getD j 0 == 1) = false) (hk2 : (KD.getD j 0 == 2) = false) (hk3 : (KD.getD j 0 == 3) = false) (hd_ : ID.getD j 0 = (x : Int)) (hi : KInv W ws L0 L1) (hm : i < L0.length) (hx : L0.getD i 0 = x) (ha : i = 0) (hb : ¬ i + 1 < L0.length) : Rnd KD ID OT WS n k c c' (hd Try.f4 1) W ws j r w L0 L1 := by
  obtain ⟨o1, o2, o3, o4, o5, o6⟩ := opj KD ID OT n h hj
  have hle := hi.le
  have hl := hi.len
  obtain ⟨x1, x2⟩ := hi.ids0 _ (hx ▸ getD_mem hm)
  have nd : L0.Nodup := (List.nodup_append.1 hi.nd).1
  have hc := hi.c0 i hm
  rw [hx] at hc
  have hat : atF (mI L0) (x : Int) L0.length 0 = (i : Int) := atF_at hm hx nd _ 0 (by omega) (by omega)
  have eN : IntKind.i64.wrap (ws.getD (4 * (x - 1) + 2) 0) = 0 := by
    have e := hc.1
    unfold wN at e
    rw [e, getD_end (L := L0) (by omega)]
    rfl
  have eP : IntKind.i64.wrap (ws.getD (4 * (x - 1)) 0) = 0 := by
    have e := hc.2
    unfold wP at e
    rw [e, if_pos ha]
    rfl
  have ew : dropW ws L0 i = ws := by
    unfold dropW
    simp only
    rw [if_neg (show ¬ 0 < i by omega), if_neg hb]
  have en : IntKind.i64.wrap (((L0.length : Nat) : Int) - 1) = ((L0.length - 1 : Nat) : Int) := by rw [wrapIm (by omega) (by omega)]; omega
  have he := kd_000 KD ID OT WS n k c c' ws (j : Int) (hI L0) (tI L0) ((L0.length : Nat) : Int) (hI L1) (tI L1) ((L1.length : Nat) : Int) r w L0.length L1.length (mI L0) (mI L1) 0 0 i
  have l0 : 4 * (x - 1) + 2 < 48 := by omega
  have l1 : 4 * (x - 1) < 48 := by omega
  have k1 : decide ((x : Int) < 1) = false := decide_eq_false (by omega)
  have k2 : decide ((12 : Int) < (x : Int)) = false := decide_eq_false (by omega)
  have k3 : decide ((0 : Int) < (i : Int)) = false := decide_eq_false (by omega)
  have k4 : decide ((i : Int) < ((L0.length - 1 : Nat) : Int)) = false := decide_eq_false (by omega)
  have uz : IntKind.u64.wrap (0 : Int) = 0 := rfl
  simp only [Int.toNat_natCast, zJ, hd_, Int.ofNat_eq_natCast, pN x1 x2, pP x1 x2, uz, zA, zB, o6, en, eN, eP] at he
  rw [conj_tm (by
    simp only [List.all_cons, List.all_nil, _root_.id, hk1, hk2, hk3, o1, o2, o3, o4, o5, k1, k2, k3, k4, hat, a1 l0, a2 l0, a3 l0, a5 l0, a6 l0, a7 l0, a1 l1, a2 l1, a3 l1, a5 l1, a6 l1, a7 l1, a4, mI_len, cond_true, cond_false, Bool.not_false, Bool.not_true, Bool.and_true, beq_self_eq_true, bne_self_eq_false, Bool.or_true, Bool.true_and, Nat.beq_refl, Bool.and_eq_true, decide_eq_true_eq, Nat.ble_eq, List.length_set, hl, true_and, and_true]
    first
      | omega
      | (simp only [Nat.blt, Nat.ble_eq, Bool.and_eq_true, decide_eq_true_eq]; omega))] at he
  refine ⟨dropW ws L0 i, L0.eraseIdx i, L1, IntKind.u64.wrap (r + 2), IntKind.u64.wrap (w + 0), hi.drop hm, ?_⟩
  rw [ew]
  exact fin_ KD ID OT WS n k c c' (σ := [(0, 0), (1, 1), (2, 2), (3, 3), (4, 4), (5, 5), (6, 6), (7, 7), (8, 19), (9, 9)]) (HEO_head (hE_kb ok_told0 (Int.ofNat i) 0 i 8 0 0 [2, 0] [2, 0] [0, 0, 0] [2, 0, 0] [0, 0] 8) mixedM rfl he rfl) rfl
    (h0 := 0) (t0 := 0) (n0 := ((L0.length - 1 : Nat) : Int)) (h1 := hI L1) (t1 := tI L1) (n1 := ((L1.length : Nat) : Int)) (v0 := .sl false 8 1 0 1 ((mI L0).eraseIdx i).length none) (v1 := liV false 9 L1.length) (b8 := ⟨false, false, .col (.ints .i64 ((mI L0).eraseIdx i))⟩) (b9 := liK L1) (by kernel_rfl)
    (by show _ = (((L0.eraseIdx i).getD 0 0 : Nat) : Int); rw [erase_h, if_pos ha, getD_end (by omega)]; rfl) (by show _ = ((lastN (L0.eraseIdx i) : Nat) : Int); rw [erase_t hm, if_neg hb, if_pos ha]; rfl) (by rw [nI, List.length_eraseIdx, if_pos hm]) (rfl) (rfl) (rfl) (low_slN (by omega) (by rw [mI_erase, mI_len])) (lowV.refl _ _) (low_ints (mI_erase _ _)) .same
theorem st_d001 (h : OpsIn KD ID OT n) (hj : j < n) (hk1 : (KD.getD j 0 == 1) = false) (hk2 : (KD.getD j 0 == 2) = false) (hk3 : (KD.getD j 0 == 3) = false) (hd_ : ID.getD j 0 = (x : Int)) (hi : KInv W ws L0 L1) (hm : i < L0.length) (hx : L0.getD i 0 = x) (ha : i = 0) (hb : i + 1 < L0.length) : Rnd KD ID OT WS n k c c' (hd Try.f4 1) W ws j r w L0 L1 := by
  obtain ⟨o1, o2, o3, o4, o5, o6⟩ := opj KD ID OT n h hj
  have hle := hi.le
  have hl := hi.len
  obtain ⟨x1, x2⟩ := hi.ids0 _ (hx ▸ getD_mem hm)
  have nd : L0.Nodup := (List.nodup_append.1 hi.nd).1
  have hc := hi.c0 i hm
  rw [hx] at hc
  have hat : atF (mI L0) (x : Int) L0.length 0 = (i : Int) := atF_at hm hx nd _ 0 (by omega) (by omega)
  obtain ⟨q1, q2⟩ := hi.ids0 _ (getD_mem hb)
  have eN : IntKind.i64.wrap (ws.getD (4 * (x - 1) + 2) 0) = ((L0.getD (i + 1) 0 : Nat) : Int) := by
    have e := hc.1
    unfold wN at e
    rw [e]
    exact wrapIm (by omega) (by omega)
  have eP : IntKind.i64.wrap (ws.getD (4 * (x - 1)) 0) = 0 := by
    have e := hc.2
    unfold wP at e
    rw [e, if_pos ha]
    rfl
  have ew : dropW ws L0 i = (ws).set (4 * (L0.getD (i + 1) 0 - 1)) 0 := by
    unfold dropW
    simp only
    rw [if_neg (show ¬ 0 < i by omega), if_pos hb, if_pos ha]
  have en : IntKind.i64.wrap (((L0.length : Nat) : Int) - 1) = ((L0.length - 1 : Nat) : Int) := by rw [wrapIm (by omega) (by omega)]; omega
  have he := kd_001 KD ID OT WS n k c c' ws (j : Int) (hI L0) (tI L0) ((L0.length : Nat) : Int) (hI L1) (tI L1) ((L1.length : Nat) : Int) r w L0.length L1.length (mI L0) (mI L1) ((L0.getD (i + 1) 0 : Nat) : Int) 0 i
  have l0 : 4 * (x - 1) + 2 < 48 := by omega
  have l1 : 4 * (x - 1) < 48 := by omega
  have l2 : 4 * (L0.getD (i + 1) 0 - 1) < 48 := by omega
  have k1 : decide ((x : Int) < 1) = false := decide_eq_false (by omega)
  have k2 : decide ((12 : Int) < (x : Int)) = false := decide_eq_false (by omega)
  have k3 : decide ((0 : Int) < (i : Int)) = false := decide_eq_false (by omega)
  have k4 : decide ((i : Int) < ((L0.length - 1 : Nat) : Int)) = true := decide_eq_true (by omega)
  have k6 : (((L0.getD (i + 1) 0 : Nat) : Int) != 0) = true := by rw [bne_iff_ne]; omega
  have uz : IntKind.u64.wrap (0 : Int) = 0 := rfl
  simp only [Int.toNat_natCast, zJ, hd_, Int.ofNat_eq_natCast, pN x1 x2, pP x1 x2, pP q1 q2, wrapU q2, uz, zA, zB, o6, en, eN, eP] at he
  rw [conj_tm (by
    simp only [List.all_cons, List.all_nil, _root_.id, hk1, hk2, hk3, o1, o2, o3, o4, o5, k1, k2, k3, k4, k6, hat, a1 l0, a2 l0, a3 l0, a5 l0, a6 l0, a7 l0, a1 l1, a2 l1, a3 l1, a5 l1, a6 l1, a7 l1, a1 l2, a2 l2, a3 l2, a5 l2, a6 l2, a7 l2, a4, mI_len, cond_true, cond_false, Bool.not_false, Bool.not_true, Bool.and_true, beq_self_eq_true, bne_self_eq_false, Bool.or_true, Bool.true_and, Nat.beq_refl, Bool.and_eq_true, decide_eq_true_eq, Nat.ble_eq, List.length_set, hl, true_and, and_true]
    first
      | omega
      | (simp only [Nat.blt, Nat.ble_eq, Bool.and_eq_true, decide_eq_true_eq]; omega))] at he
  refine ⟨dropW ws L0 i, L0.eraseIdx i, L1, IntKind.u64.wrap (r + 2), IntKind.u64.wrap (w + 1), hi.drop hm, ?_⟩
  rw [ew]
  exact fin_ KD ID OT WS n k c c' (σ := [(0, 0), (1, 1), (2, 2), (3, 3), (4, 4), (5, 5), (6, 6), (7, 7), (8, 20), (9, 9)]) (HEO_head (hE_kb ok_told0 (Int.ofNat i) 0 i 8 ((L0.getD (i + 1) 0 : Nat) : Int) 0 [2, 0] [2, 0] [0, 0, 0] [2, 0, 1] [0, 1] 8) mixedM rfl he rfl) rfl
    (h0 := ((L0.getD (i + 1) 0 : Nat) : Int)) (t0 := tI L0) (n0 := ((L0.length - 1 : Nat) : Int)) (h1 := hI L1) (t1 := tI L1) (n1 := ((L1.length : Nat) : Int)) (v0 := .sl false 8 1 0 1 ((mI L0).eraseIdx i).length none) (v1 := liV false 9 L1.length) (b8 := ⟨false, false, .col (.ints .i64 ((mI L0).eraseIdx i))⟩) (b9 := liK L1) (by kernel_rfl)
    (by show _ = (((L0.eraseIdx i).getD 0 0 : Nat) : Int); rw [erase_h, if_pos ha, ha]) (by show _ = ((lastN (L0.eraseIdx i) : Nat) : Int); rw [erase_t hm, if_pos hb]) (by rw [nI, List.length_eraseIdx, if_pos hm]) (rfl) (rfl) (rfl) (low_slN (by omega) (by rw [mI_erase, mI_len])) (lowV.refl _ _) (low_ints (mI_erase _ _)) .same
theorem st_d010 (h : OpsIn KD ID OT n) (hj : j < n) (hk1 : (KD.getD j 0 == 1) = false) (hk2 : (KD.getD j 0 == 2) = false) (hk3 : (KD.getD j 0 == 3) = false) (hd_ : ID.getD j 0 = (x : Int)) (hi : KInv W ws L0 L1) (hm : i < L0.length) (hx : L0.getD i 0 = x) (ha : 0 < i) (hb : ¬ i + 1 < L0.length) : Rnd KD ID OT WS n k c c' (hd Try.f4 1) W ws j r w L0 L1 := by
  obtain ⟨o1, o2, o3, o4, o5, o6⟩ := opj KD ID OT n h hj
  have hle := hi.le
  have hl := hi.len
  obtain ⟨x1, x2⟩ := hi.ids0 _ (hx ▸ getD_mem hm)
  have nd : L0.Nodup := (List.nodup_append.1 hi.nd).1
  have hc := hi.c0 i hm
  rw [hx] at hc
  have hat : atF (mI L0) (x : Int) L0.length 0 = (i : Int) := atF_at hm hx nd _ 0 (by omega) (by omega)
  obtain ⟨p1, p2⟩ := hi.ids0 _ (getD_mem (L := L0) (i := i - 1) (by omega))
  have eN : IntKind.i64.wrap (ws.getD (4 * (x - 1) + 2) 0) = 0 := by
    have e := hc.1
    unfold wN at e
    rw [e, getD_end (L := L0) (by omega)]
    rfl
  have eP : IntKind.i64.wrap (ws.getD (4 * (x - 1)) 0) = ((L0.getD (i - 1) 0 : Nat) : Int) := by
    have e := hc.2
    unfold wP at e
    rw [e, if_neg (show ¬ i = 0 by omega)]
    exact wrapIm (by omega) (by omega)
  have ew : dropW ws L0 i = ws.set (4 * (L0.getD (i - 1) 0 - 1) + 2) 0 := by
    unfold dropW
    simp only
    rw [if_pos ha, if_neg hb]
    rw [getD_end (L := L0) (i := i + 1) (by omega)]; rfl
  have en : IntKind.i64.wrap (((L0.length : Nat) : Int) - 1) = ((L0.length - 1 : Nat) : Int) := by rw [wrapIm (by omega) (by omega)]; omega
  have he := kd_010 KD ID OT WS n k c c' ws (j : Int) (hI L0) (tI L0) ((L0.length : Nat) : Int) (hI L1) (tI L1) ((L1.length : Nat) : Int) r w L0.length L1.length (mI L0) (mI L1) 0 ((L0.getD (i - 1) 0 : Nat) : Int) i
  have l0 : 4 * (x - 1) + 2 < 48 := by omega
  have l1 : 4 * (x - 1) < 48 := by omega
  have l2 : 4 * (L0.getD (i - 1) 0 - 1) + 2 < 48 := by omega
  have k1 : decide ((x : Int) < 1) = false := decide_eq_false (by omega)
  have k2 : decide ((12 : Int) < (x : Int)) = false := decide_eq_false (by omega)
  have k3 : decide ((0 : Int) < (i : Int)) = true := decide_eq_true (by omega)
  have k4 : decide ((i : Int) < ((L0.length - 1 : Nat) : Int)) = false := decide_eq_false (by omega)
  have k5 : (((L0.getD (i - 1) 0 : Nat) : Int) != 0) = true := by rw [bne_iff_ne]; omega
  have uz : IntKind.u64.wrap (0 : Int) = 0 := rfl
  simp only [Int.toNat_natCast, zJ, hd_, Int.ofNat_eq_natCast, pN x1 x2, pP x1 x2, pN p1 p2, wrapU p2, uz, zA, zB, o6, en, eN, eP] at he
  rw [conj_tm (by
    simp only [List.all_cons, List.all_nil, _root_.id, hk1, hk2, hk3, o1, o2, o3, o4, o5, k1, k2, k3, k4, k5, hat, a1 l0, a2 l0, a3 l0, a5 l0, a6 l0, a7 l0, a1 l1, a2 l1, a3 l1, a5 l1, a6 l1, a7 l1, a1 l2, a2 l2, a3 l2, a5 l2, a6 l2, a7 l2, a4, mI_len, cond_true, cond_false, Bool.not_false, Bool.not_true, Bool.and_true, beq_self_eq_true, bne_self_eq_false, Bool.or_true, Bool.true_and, Nat.beq_refl, Bool.and_eq_true, decide_eq_true_eq, Nat.ble_eq, List.length_set, hl, true_and, and_true]
    first
      | omega
      | (simp only [Nat.blt, Nat.ble_eq, Bool.and_eq_true, decide_eq_true_eq]; omega))] at he
  refine ⟨dropW ws L0 i, L0.eraseIdx i, L1, IntKind.u64.wrap (r + 2), IntKind.u64.wrap (w + 1), hi.drop hm, ?_⟩
  rw [ew]
  exact fin_ KD ID OT WS n k c c' (σ := [(0, 0), (1, 1), (2, 2), (3, 3), (4, 4), (5, 5), (6, 6), (7, 7), (8, 20), (9, 9)]) (HEO_head (hE_kb ok_told0 (Int.ofNat i) 0 i 8 0 ((L0.getD (i - 1) 0 : Nat) : Int) [2, 0] [2, 0] [0, 0, 0] [2, 1, 0] [1, 0] 8) mixedM rfl he rfl) rfl
    (h0 := hI L0) (t0 := ((L0.getD (i - 1) 0 : Nat) : Int)) (n0 := ((L0.length - 1 : Nat) : Int)) (h1 := hI L1) (t1 := tI L1) (n1 := ((L1.length : Nat) : Int)) (v0 := .sl false 8 1 0 1 ((mI L0).eraseIdx i).length none) (v1 := liV false 9 L1.length) (b8 := ⟨false, false, .col (.ints .i64 ((mI L0).eraseIdx i))⟩) (b9 := liK L1) (by kernel_rfl)
    (by show _ = (((L0.eraseIdx i).getD 0 0 : Nat) : Int); rw [erase_h, if_neg (show ¬ i = 0 by omega)]) (by show _ = ((lastN (L0.eraseIdx i) : Nat) : Int); rw [erase_t hm, if_neg hb, if_neg (show ¬ i = 0 by omega)]) (by rw [nI, List.length_eraseIdx, if_pos hm]) (rfl) (rfl) (rfl) (low_slN (by omega) (by rw [mI_erase, mI_len])) (lowV.refl _ _) (low_ints (mI_erase _ _)) .same
theorem st_d011 (h : OpsIn KD ID OT n) (hj : j < n) (hk1 : (KD.getD j 0 == 1) = false) (hk2 : (KD.getD j 0 == 2) = false) (hk3 : (KD.getD j 0 == 3) = false) (hd_ : ID.getD j 0 = (x : Int)) (hi : KInv W ws L0 L1) (hm : i < L0.length) (hx : L0.getD i 0 = x) (ha : 0 < i) (hb : i + 1 < L0.length) : Rnd KD ID OT WS n k c c' (hd Try.f4 1) W ws j r w L0 L1 := by
  obtain ⟨o1, o2, o3, o4, o5, o6⟩ := opj KD ID OT n h hj
  have hle := hi.le
  have hl := hi.len
  obtain ⟨x1, x2⟩ := hi.ids0 _ (hx ▸ getD_mem hm)
  have nd : L0.Nodup := (List.nodup_append.1 hi.nd).1
  have hc := hi.c0 i hm
  rw [hx] at hc
  have hat : atF (mI L0) (x : Int) L0.length 0 = (i : Int) := atF_at hm hx nd _ 0 (by omega) (by omega)
  obtain ⟨p1, p2⟩ := hi.ids0 _ (getD_mem (L := L0) (i := i - 1) (by omega))
  obtain ⟨q1, q2⟩ := hi.ids0 _ (getD_mem hb)
  have eN : IntKind.i64.wrap (ws.getD (4 * (x - 1) + 2) 0) = ((L0.getD (i + 1) 0 : Nat) : Int) := by
    have e := hc.1
    unfold wN at e
    rw [e]
    exact wrapIm (by omega) (by omega)
  have eP : IntKind.i64.wrap (ws.getD (4 * (x - 1)) 0) = ((L0.getD (i - 1) 0 : Nat) : Int) := by
    have e := hc.2
    unfold wP at e
    rw [e, if_neg (show ¬ i = 0 by omega)]
    exact wrapIm (by omega) (by omega)
  have ew : dropW ws L0 i = (ws.set (4 * (L0.getD (i - 1) 0 - 1) + 2) ((L0.getD (i + 1) 0 : Nat) : Int)).set (4 * (L0.getD (i + 1) 0 - 1)) ((L0.getD (i - 1) 0 : Nat) : Int) := by
    unfold dropW
    simp only
    rw [if_pos ha, if_pos hb, if_neg (show ¬ i = 0 by omega)]
  have en : IntKind.i64.wrap (((L0.length : Nat) : Int) - 1) = ((L0.length - 1 : Nat) : Int) := by rw [wrapIm (by omega) (by omega)]; omega
  have he := kd_011 KD ID OT WS n k c c' ws (j : Int) (hI L0) (tI L0) ((L0.length : Nat) : Int) (hI L1) (tI L1) ((L1.length : Nat) : Int) r w L0.length L1.length (mI L0) (mI L1) ((L0.getD (i + 1) 0 : Nat) : Int) ((L0.getD (i - 1) 0 : Nat) : Int) i
  have l0 : 4 * (x - 1) + 2 < 48 := by omega
  have l1 : 4 * (x - 1) < 48 := by omega
  have l2 : 4 * (L0.getD (i - 1) 0 - 1) + 2 < 48 := by omega
  have l3 : 4 * (L0.getD (i + 1) 0 - 1) < 48 := by omega
  have k1 : decide ((x : Int) < 1) = false := decide_eq_false (by omega)
  have k2 : decide ((12 : Int) < (x : Int)) = false := decide_eq_false (by omega)
  have k3 : decide ((0 : Int) < (i : Int)) = true := decide_eq_true (by omega)
  have k4 : decide ((i : Int) < ((L0.length - 1 : Nat) : Int)) = true := decide_eq_true (by omega)
  have k5 : (((L0.getD (i - 1) 0 : Nat) : Int) != 0) = true := by rw [bne_iff_ne]; omega
  have k6 : (((L0.getD (i + 1) 0 : Nat) : Int) != 0) = true := by rw [bne_iff_ne]; omega
  have uz : IntKind.u64.wrap (0 : Int) = 0 := rfl
  simp only [Int.toNat_natCast, zJ, hd_, Int.ofNat_eq_natCast, pN x1 x2, pP x1 x2, pN p1 p2, pP q1 q2, wrapU p2, wrapU q2, uz, zA, zB, o6, en, eN, eP] at he
  rw [conj_tm (by
    simp only [List.all_cons, List.all_nil, _root_.id, hk1, hk2, hk3, o1, o2, o3, o4, o5, k1, k2, k3, k4, k5, k6, hat, a1 l0, a2 l0, a3 l0, a5 l0, a6 l0, a7 l0, a1 l1, a2 l1, a3 l1, a5 l1, a6 l1, a7 l1, a1 l2, a2 l2, a3 l2, a5 l2, a6 l2, a7 l2, a1 l3, a2 l3, a3 l3, a5 l3, a6 l3, a7 l3, a4, mI_len, cond_true, cond_false, Bool.not_false, Bool.not_true, Bool.and_true, beq_self_eq_true, bne_self_eq_false, Bool.or_true, Bool.true_and, Nat.beq_refl, Bool.and_eq_true, decide_eq_true_eq, Nat.ble_eq, List.length_set, hl, true_and, and_true]
    first
      | omega
      | (simp only [Nat.blt, Nat.ble_eq, Bool.and_eq_true, decide_eq_true_eq]; omega))] at he
  refine ⟨dropW ws L0 i, L0.eraseIdx i, L1, IntKind.u64.wrap (r + 2), IntKind.u64.wrap (w + 2), hi.drop hm, ?_⟩
  rw [ew]
  exact fin_ KD ID OT WS n k c c' (σ := [(0, 0), (1, 1), (2, 2), (3, 3), (4, 4), (5, 5), (6, 6), (7, 7), (8, 21), (9, 9)]) (HEO_head (hE_kb ok_told0 (Int.ofNat i) 0 i 8 ((L0.getD (i + 1) 0 : Nat) : Int) ((L0.getD (i - 1) 0 : Nat) : Int) [2, 0] [2, 0] [0, 0, 0] [2, 1, 1] [1, 1] 8) mixedM rfl he rfl) rfl
    (h0 := hI L0) (t0 := tI L0) (n0 := ((L0.length - 1 : Nat) : Int)) (h1 := hI L1) (t1 := tI L1) (n1 := ((L1.length : Nat) : Int)) (v0 := .sl false 8 1 0 1 ((mI L0).eraseIdx i).length none) (v1 := liV false 9 L1.length) (b8 := ⟨false, false, .col (.ints .i64 ((mI L0).eraseIdx i))⟩) (b9 := liK L1) (by kernel_rfl)
    (by show _ = (((L0.eraseIdx i).getD 0 0 : Nat) : Int); rw [erase_h, if_neg (show ¬ i = 0 by omega)]) (by show _ = ((lastN (L0.eraseIdx i) : Nat) : Int); rw [erase_t hm, if_pos hb]) (by rw [nI, List.length_eraseIdx, if_pos hm]) (rfl) (rfl) (rfl) (low_slN (by omega) (by rw [mI_erase, mI_len])) (lowV.refl _ _) (low_ints (mI_erase _ _)) .same
theorem st_d0 (h : OpsIn KD ID OT n) (hj : j < n) (hk1 : (KD.getD j 0 == 1) = false) (hk2 : (KD.getD j 0 == 2) = false) (hk3 : (KD.getD j 0 == 3) = false) (hd_ : ID.getD j 0 = (x : Int)) (hi : KInv W ws L0 L1) (hm : i < L0.length) (hx : L0.getD i 0 = x) : Rnd KD ID OT WS n k c c' (hd Try.f4 1) W ws j r w L0 L1 := by
  by_cases ha : 0 < i
  · by_cases hb : i + 1 < L0.length
    · exact st_d011 KD ID OT WS n k c c' h hj hk1 hk2 hk3 hd_ hi hm hx ha hb
    · exact st_d010 KD ID OT WS n k c c' h hj hk1 hk2 hk3 hd_ hi hm hx ha hb
  · by_cases hb : i + 1 < L0.length
    · exact st_d001 KD ID OT WS n k c c' h hj hk1 hk2 hk3 hd_ hi hm hx (by omega) hb
    · exact st_d000 KD ID OT WS n k c c' h hj hk1 hk2 hk3 hd_ hi hm hx (by omega) hb
end
end Go.Proofs.Ytmjpikkloofakaa

namespace Go.Proofs.Ytmjpikkloofakaa
open Go Go.RowKit Go.Shelf
set_option maxRecDepth 100000
set_option maxHeartbeats 4000000
section
variable (KD ID : List Int) (OT : List Bool) (WS : List Int) (n k : Nat) (c c' : Option Nat)
variable {W ws : List Int} {L0 L1 : List Nat} {j x i : Nat} {r w : Int}
theorem st_d100 (h : OpsIn KD ID OT n) (hj : j < n) (hk1 : (KD.getD j 0 == 1) = false) (hk2 : (KD.getD j 0 == 2) = false) (hk3 : (KD.getD j 0 == 3) = false) (hd_ : ID.getD j 0 = (x : Int)) (hi : KInv W ws L0 L1) (hm : i < L1.length) (hx : L1.getD i 0 = x) (ha : i = 0) (hb : ¬ i + 1 < L1.length) : Rnd KD ID OT WS n k c c' (hd Try.f4 1) W ws j r w L0 L1 := by
  obtain ⟨o1, o2, o3, o4, o5, o6⟩ := opj KD ID OT n h hj
  have hle := hi.le
  have hl := hi.len
  obtain ⟨x1, x2⟩ := hi.ids1 _ (hx ▸ getD_mem hm)
  have nd : L1.Nodup := (List.nodup_append.1 hi.nd).2.1
  have hc := hi.c1 i hm
  rw [hx] at hc
  have hat : atF (mI L1) (x : Int) L1.length 0 = (i : Int) := atF_at hm hx nd _ 0 (by omega) (by omega)
  have hno : atF (mI L0) (x : Int) L0.length 0 = -1 := atF_no (fun y hy e => by
    have e : y = x := by omega
    exact hi.apart (e ▸ hy) (hx ▸ getD_mem hm)) _ 0 (by omega)
  have eN : IntKind.i64.wrap (ws.getD (4 * (x - 1) + 2) 0) = 0 := by
    have e := hc.1
    unfold wN at e
    rw [e, getD_end (L := L1) (by omega)]
    rfl
  have eP : IntKind.i64.wrap (ws.getD (4 * (x - 1)) 0) = 0 := by
    have e := hc.2
    unfold wP at e
    rw [e, if_pos ha]
    rfl
  have ew : dropW ws L1 i = ws := by
    unfold dropW
    simp only
    rw [if_neg (show ¬ 0 < i by omega), if_neg hb]
  have en : IntKind.i64.wrap (((L1.length : Nat) : Int) - 1) = ((L1.length - 1 : Nat) : Int) := by rw [wrapIm (by omega) (by omega)]; omega
  have he := kd_100 KD ID OT WS n k c c' ws (j : Int) (hI L0) (tI L0) ((L0.length : Nat) : Int) (hI L1) (tI L1) ((L1.length : Nat) : Int) r w L0.length L1.length (mI L0) (mI L1) 0 0 i
  have l0 : 4 * (x - 1) + 2 < 48 := by omega
  have l1 : 4 * (x - 1) < 48 := by omega
  have k1 : decide ((x : Int) < 1) = false := decide_eq_false (by omega)
  have k2 : decide ((12 : Int) < (x : Int)) = false := decide_eq_false (by omega)
  have k3 : decide ((0 : Int) < (i : Int)) = false := decide_eq_false (by omega)
  have k4 : decide ((i : Int) < ((L1.length - 1 : Nat) : Int)) = false := decide_eq_false (by omega)
  have uz : IntKind.u64.wrap (0 : Int) = 0 := rfl
  simp only [Int.toNat_natCast, zJ, hd_, Int.ofNat_eq_natCast, pN x1 x2, pP x1 x2, uz, zA, zB, o6, en, eN, eP] at he
  rw [conj_tm (by
    simp only [List.all_cons, List.all_nil, _root_.id, hk1, hk2, hk3, o1, o2, o3, o4, o5, k1, k2, k3, k4, hat, hno, a1 l0, a2 l0, a3 l0, a5 l0, a6 l0, a7 l0, a1 l1, a2 l1, a3 l1, a5 l1, a6 l1, a7 l1, a4, mI_len, cond_true, cond_false, Bool.not_false, Bool.not_true, Bool.and_true, beq_self_eq_true, bne_self_eq_false, Bool.or_true, Bool.true_and, Nat.beq_refl, Bool.and_eq_true, decide_eq_true_eq, Nat.ble_eq, List.length_set, hl, true_and, and_true]
    first
      | omega
      | (simp only [Nat.blt, Nat.ble_eq, Bool.and_eq_true, decide_eq_true_eq]; omega))] at he
  refine ⟨dropW ws L1 i, L0, L1.eraseIdx i, IntKind.u64.wrap (r + 2), IntKind.u64.wrap (w + 0), (hi.symm.drop hm).symm, ?_⟩
  rw [ew]
  exact fin_ KD ID OT WS n k c c' (σ := [(0, 0), (1, 1), (2, 2), (3, 3), (4, 4), (5, 5), (6, 6), (7, 7), (8, 8), (9, 19)]) (HEO_head (hE_kb ok_told0 (-1) (Int.ofNat i) i 8 0 0 [2, 0] [2, 1, 2, 0] [0, 0, 0] [2, 0, 0] [0, 0] 8) mixedM rfl he rfl) rfl
    (h0 := hI L0) (t0 := tI L0) (n0 := ((L0.length : Nat) : Int)) (h1 := 0) (t1 := 0) (n1 := ((L1.length - 1 : Nat) : Int)) (v0 := liV false 8 L0.length) (v1 := .sl false 9 1 0 1 ((mI L1).eraseIdx i).length none) (b8 := liK L0) (b9 := ⟨false, false, .col (.ints .i64 ((mI L1).eraseIdx i))⟩) (by kernel_rfl)
    (rfl) (rfl) (rfl) (by show _ = (((L1.eraseIdx i).getD 0 0 : Nat) : Int); rw [erase_h, if_pos ha, getD_end (by omega)]; rfl) (by show _ = ((lastN (L1.eraseIdx i) : Nat) : Int); rw [erase_t hm, if_neg hb, if_pos ha]; rfl) (by rw [nI, List.length_eraseIdx, if_pos hm]) (lowV.refl _ _) (low_slN (by omega) (by rw [mI_erase, mI_len])) .same (low_ints (mI_erase _ _))
theorem st_d101 (h : OpsIn KD ID OT n) (hj : j < n) (hk1 : (KD.getD j 0 == 1) = false) (hk2 : (KD.getD j 0 == 2) = false) (hk3 : (KD.getD j 0 == 3) = false) (hd_ : ID.getD j 0 = (x : Int)) (hi : KInv W ws L0 L1) (hm : i < L1.length) (hx : L1.getD i 0 = x) (ha : i = 0) (hb : i + 1 < L1.length) : Rnd KD ID OT WS n k c c' (hd Try.f4 1) W ws j r w L0 L1 := by
  obtain ⟨o1, o2, o3, o4, o5, o6⟩ := opj KD ID OT n h hj
  have hle := hi.le
  have hl := hi.len
  obtain ⟨x1, x2⟩ := hi.ids1 _ (hx ▸ getD_mem hm)
  have nd : L1.Nodup := (List.nodup_append.1 hi.nd).2.1
  have hc := hi.c1 i hm
  rw [hx] at hc
  have hat : atF (mI L1) (x : Int) L1.length 0 = (i : Int) := atF_at hm hx nd _ 0 (by omega) (by omega)
  have hno : atF (mI L0) (x : Int) L0.length 0 = -1 := atF_no (fun y hy e => by
    have e : y = x := by omega
    exact hi.apart (e ▸ hy) (hx ▸ getD_mem hm)) _ 0 (by omega)
  obtain ⟨q1, q2⟩ := hi.ids1 _ (getD_mem hb)
  have eN : IntKind.i64.wrap (ws.getD (4 * (x - 1) + 2) 0) = ((L1.getD (i + 1) 0 : Nat) : Int) := by
    have e := hc.1
    unfold wN at e
    rw [e]
    exact wrapIm (by omega) (by omega)
  have eP : IntKind.i64.wrap (ws.getD (4 * (x - 1)) 0) = 0 := by
    have e := hc.2
    unfold wP at e
    rw [e, if_pos ha]
    rfl
  have ew : dropW ws L1 i = (ws).set (4 * (L1.getD (i + 1) 0 - 1)) 0 := by
    unfold dropW
    simp only
    rw [if_neg (show ¬ 0 < i by omega), if_pos hb, if_pos ha]
  have en : IntKind.i64.wrap (((L1.length : Nat) : Int) - 1) = ((L1.length - 1 : Nat) : Int) := by rw [wrapIm (by omega) (by omega)]; omega
  have he := kd_101 KD ID OT WS n k c c' ws (j : Int) (hI L0) (tI L0) ((L0.length : Nat) : Int) (hI L1) (tI L1) ((L1.length : Nat) : Int) r w L0.length L1.length (mI L0) (mI L1) ((L1.getD (i + 1) 0 : Nat) : Int) 0 i
  have l0 : 4 * (x - 1) + 2 < 48 := by omega
  have l1 : 4 * (x - 1) < 48 := by omega
  have l2 : 4 * (L1.getD (i + 1) 0 - 1) < 48 := by omega
  have k1 : decide ((x : Int) < 1) = false := decide_eq_false (by omega)
  have k2 : decide ((12 : Int) < (x : Int)) = false := decide_eq_false (by omega)
  have k3 : decide ((0 : Int) < (i : Int)) = false := decide_eq_false (by omega)
  have k4 : decide ((i : Int) < ((L1.length - 1 : Nat) : Int)) = true := decide_eq_true (by omega)
  have k6 : (((L1.getD (i + 1) 0 : Nat) : Int) != 0) = true := by rw [bne_iff_ne]; omega
  have uz : IntKind.u64.wrap (0 : Int) = 0 := rfl
  simp only [Int.toNat_natCast, zJ, hd_, Int.ofNat_eq_natCast, pN x1 x2, pP x1 x2, pP q1 q2, wrapU q2, uz, zA, zB, o6, en, eN, eP] at he
  rw [conj_tm (by
    simp only [List.all_cons, List.all_nil, _root_.id, hk1, hk2, hk3, o1, o2, o3, o4, o5, k1, k2, k3, k4, k6, hat, hno, a1 l0, a2 l0, a3 l0, a5 l0, a6 l0, a7 l0, a1 l1, a2 l1, a3 l1, a5 l1, a6 l1, a7 l1, a1 l2, a2 l2, a3 l2, a5 l2, a6 l2, a7 l2, a4, mI_len, cond_true, cond_false, Bool.not_false, Bool.not_true, Bool.and_true, beq_self_eq_true, bne_self_eq_false, Bool.or_true, Bool.true_and, Nat.beq_refl, Bool.and_eq_true, decide_eq_true_eq, Nat.ble_eq, List.length_set, hl, true_and, and_true]
    first
      | omega
      | (simp only [Nat.blt, Nat.ble_eq, Bool.and_eq_true, decide_eq_true_eq]; omega))] at he
  refine ⟨dropW ws L1 i, L0, L1.eraseIdx i, IntKind.u64.wrap (r + 2), IntKind.u64.wrap (w + 1), (hi.symm.drop hm).symm, ?_⟩
  rw [ew]
  exact fin_ KD ID OT WS n k c c' (σ := [(0, 0), (1, 1), (2, 2), (3, 3), (4, 4), (5, 5), (6, 6), (7, 7), (8, 8), (9, 20)]) (HEO_head (hE_kb ok_told0 (-1) (Int.ofNat i) i 8 ((L1.getD (i + 1) 0 : Nat) : Int) 0 [2, 0] [2, 1, 2, 0] [0, 0, 0] [2, 0, 1] [0, 1] 8) mixedM rfl he rfl) rfl
    (h0 := hI L0) (t0 := tI L0) (n0 := ((L0.length : Nat) : Int)) (h1 := ((L1.getD (i + 1) 0 : Nat) : Int)) (t1 := tI L1) (n1 := ((L1.length - 1 : Nat) : Int)) (v0 := liV false 8 L0.length) (v1 := .sl false 9 1 0 1 ((mI L1).eraseIdx i).length none) (b8 := liK L0) (b9 := ⟨false, false, .col (.ints .i64 ((mI L1).eraseIdx i))⟩) (by kernel_rfl)
    (rfl) (rfl) (rfl) (by show _ = (((L1.eraseIdx i).getD 0 0 : Nat) : Int); rw [erase_h, if_pos ha, ha]) (by show _ = ((lastN (L1.eraseIdx i) : Nat) : Int); rw [erase_t hm, if_pos hb]) (by rw [nI, List.length_eraseIdx, if_pos hm]) (lowV.refl _ _) (low_slN (by omega) (by rw [mI_erase, mI_len])) .same (low_ints (mI_erase _ _))
theorem st_d110 (h : OpsIn KD ID OT n) (hj : j < n) (hk1 : (KD.getD j 0 == 1) = false) (hk2 : (KD.getD j 0 == 2) = false) (hk3 : (KD.getD j 0 == 3) = false) (hd_ : ID.getD j 0 = (x : Int)) (hi : KInv W ws L0 L1) (hm : i < L1.length) (hx : L1.getD i 0 = x) (ha : 0 < i) (hb : ¬ i + 1 < L1.length) : Rnd KD ID OT WS n k c c' (hd Try.f4 1) W ws j r w L0 L1 := by
  obtain ⟨o1, o2, o3, o4, o5, o6⟩ := opj KD ID OT n h hj
  have hle := hi.le
  have hl := hi.len
  obtain ⟨x1, x2⟩ := hi.ids1 _ (hx ▸ getD_mem hm)
  have nd : L1.Nodup := (List.nodup_append.1 hi.nd).2.1
  have hc := hi.c1 i hm
  rw [hx] at hc
  have hat : atF (mI L1) (x : Int) L1.length 0 = (i : Int) := atF_at hm hx nd _ 0 (by omega) (by omega)
  have hno : atF (mI L0) (x : Int) L0.length 0 = -1 := atF_no (fun y hy e => by
    have e : y = x := by omega
    exact hi.apart (e ▸ hy) (hx ▸ getD_mem hm)) _ 0 (by omega)
  obtain ⟨p1, p2⟩ := hi.ids1 _ (getD_mem (L := L1) (i := i - 1) (by omega))
  have eN : IntKind.i64.wrap (ws.getD (4 * (x - 1) + 2) 0) = 0 := by
    have e := hc.1
    unfold wN at e
    rw [e, getD_end (L := L1) (by omega)]
    rfl
  have eP : IntKind.i64.wrap (ws.getD (4 * (x - 1)) 0) = ((L1.getD (i - 1) 0 : Nat) : Int) := by
    have e := hc.2
    unfold wP at e
    rw [e, if_neg (show ¬ i = 0 by omega)]
    exact wrapIm (by omega) (by omega)
  have ew : dropW ws L1 i = ws.set (4 * (L1.getD (i - 1) 0 - 1) + 2) 0 := by
    unfold dropW
    simp only
    rw [if_pos ha, if_neg hb]
    rw [getD_end (L := L1) (i := i + 1) (by omega)]; rfl
  have en : IntKind.i64.wrap (((L1.length : Nat) : Int) - 1) = ((L1.length - 1 : Nat) : Int) := by rw [wrapIm (by omega) (by omega)]; omega
  have he := kd_110 KD ID OT WS n k c c' ws (j : Int) (hI L0) (tI L0) ((L0.length : Nat) : Int) (hI L1) (tI L1) ((L1.length : Nat) : Int) r w L0.length L1.length (mI L0) (mI L1) 0 ((L1.getD (i - 1) 0 : Nat) : Int) i
  have l0 : 4 * (x - 1) + 2 < 48 := by omega
  have l1 : 4 * (x - 1) < 48 := by omega
  have l2 : 4 * (L1.getD (i - 1) 0 - 1) + 2 < 48 := by omega
  have k1 : decide ((x : Int) < 1) = false := decide_eq_false (by omega)
  have k2 : decide ((12 : Int) < (x : Int)) = false := decide_eq_false (by omega)
  have k3 : decide ((0 : Int) < (i : Int)) = true := decide_eq_true (by omega)
  have k4 : decide ((i : Int) < ((L1.length - 1 : Nat) : Int)) = false := decide_eq_false (by omega)
  have k5 : (((L1.getD (i - 1) 0 : Nat) : Int) != 0) = true := by rw [bne_iff_ne]; omega
  have uz : IntKind.u64.wrap (0 : Int) = 0 := rfl
  simp only [Int.toNat_natCast, zJ, hd_, Int.ofNat_eq_natCast, pN x1 x2, pP x1 x2, pN p1 p2, wrapU p2, uz, zA, zB, o6, en, eN, eP] at he
  rw [conj_tm (by
    simp only [List.all_cons, List.all_nil, _root_.id, hk1, hk2, hk3, o1, o2, o3, o4, o5, k1, k2, k3, k4, k5, hat, hno, a1 l0, a2 l0, a3 l0, a5 l0, a6 l0, a7 l0, a1 l1, a2 l1, a3 l1, a5 l1, a6 l1, a7 l1, a1 l2, a2 l2, a3 l2, a5 l2, a6 l2, a7 l2, a4, mI_len, cond_true, cond_false, Bool.not_false, Bool.not_true, Bool.and_true, beq_self_eq_true, bne_self_eq_false, Bool.or_true, Bool.true_and, Nat.beq_refl, Bool.and_eq_true, decide_eq_true_eq, Nat.ble_eq, List.length_set, hl, true_and, and_true]
    first
      | omega
      | (simp only [Nat.blt, Nat.ble_eq, Bool.and_eq_true, decide_eq_true_eq]; omega))] at he
  refine ⟨dropW ws L1 i, L0, L1.eraseIdx i, IntKind.u64.wrap (r + 2), IntKind.u64.wrap (w + 1), (hi.symm.drop hm).symm, ?_⟩
  rw [ew]
  exact fin_ KD ID OT WS n k c c' (σ := [(0, 0), (1, 1), (2, 2), (3, 3), (4, 4), (5, 5), (6, 6), (7, 7), (8, 8), (9, 20)]) (HEO_head (hE_kb ok_told0 (-1) (Int.ofNat i) i 8 0 ((L1.getD (i - 1) 0 : Nat) : Int) [2, 0] [2, 1, 2, 0] [0, 0, 0] [2, 1, 0] [1, 0] 8) mixedM rfl he rfl) rfl
    (h0 := hI L0) (t0 := tI L0) (n0 := ((L0.length : Nat) : Int)) (h1 := hI L1) (t1 := ((L1.getD (i - 1) 0 : Nat) : Int)) (n1 := ((L1.length - 1 : Nat) : Int)) (v0 := liV false 8 L0.length) (v1 := .sl false 9 1 0 1 ((mI L1).eraseIdx i).length none) (b8 := liK L0) (b9 := ⟨false, false, .col (.ints .i64 ((mI L1).eraseIdx i))⟩) (by kernel_rfl)
    (rfl) (rfl) (rfl) (by show _ = (((L1.eraseIdx i).getD 0 0 : Nat) : Int); rw [erase_h, if_neg (show ¬ i = 0 by omega)]) (by show _ = ((lastN (L1.eraseIdx i) : Nat) : Int); rw [erase_t hm, if_neg hb, if_neg (show ¬ i = 0 by omega)]) (by rw [nI, List.length_eraseIdx, if_pos hm]) (lowV.refl _ _) (low_slN (by omega) (by rw [mI_erase, mI_len])) .same (low_ints (mI_erase _ _))
theorem st_d111 (h : OpsIn KD ID OT n) (hj : j < n) (hk1 : (KD.getD j 0 == 1) = false) (hk2 : (KD.getD j 0 == 2) = false) (hk3 : (KD.getD j 0 == 3) = false) (hd_ : ID.getD j 0 = (x : Int)) (hi : KInv W ws L0 L1) (hm : i < L1.length) (hx : L1.getD i 0 = x) (ha : 0 < i) (hb : i + 1 < L1.length) : Rnd KD ID OT WS n k c c' (hd Try.f4 1) W ws j r w L0 L1 := by
  obtain ⟨o1, o2, o3, o4, o5, o6⟩ := opj KD ID OT n h hj
  have hle := hi.le
  have hl := hi.len
  obtain ⟨x1, x2⟩ := hi.ids1 _ (hx ▸ getD_mem hm)
  have nd : L1.Nodup := (List.nodup_append.1 hi.nd).2.1
  have hc := hi.c1 i hm
  rw [hx] at hc
  have hat : atF (mI L1) (x : Int) L1.length 0 = (i : Int) := atF_at hm hx nd _ 0 (by omega) (by omega)
  have hno : atF (mI L0) (x : Int) L0.length 0 = -1 := atF_no (fun y hy e => by
    have e : y = x := by omega
    exact hi.apart (e ▸ hy) (hx ▸ getD_mem hm)) _ 0 (by omega)
  obtain ⟨p1, p2⟩ := hi.ids1 _ (getD_mem (L := L1) (i := i - 1) (by omega))
  obtain ⟨q1, q2⟩ := hi.ids1 _ (getD_mem hb)
  have eN : IntKind.i64.wrap (ws.getD (4 * (x - 1) + 2) 0) = ((L1.getD (i + 1) 0 : Nat) : Int) := by
    have e := hc.1
    unfold wN at e
    rw [e]
    exact wrapIm (by omega) (by omega)
  have eP : IntKind.i64.wrap (ws.getD (4 * (x - 1)) 0) = ((L1.getD (i - 1) 0 : Nat) : Int) := by
    have e := hc.2
    unfold wP at e
    rw [e, if_neg (show ¬ i = 0 by omega)]
    exact wrapIm (by omega) (by omega)
  have ew : dropW ws L1 i = (ws.set (4 * (L1.getD (i - 1) 0 - 1) + 2) ((L1.getD (i + 1) 0 : Nat) : Int)).set (4 * (L1.getD (i + 1) 0 - 1)) ((L1.getD (i - 1) 0 : Nat) : Int) := by
    unfold dropW
    simp only
    rw [if_pos ha, if_pos hb, if_neg (show ¬ i = 0 by omega)]
  have en : IntKind.i64.wrap (((L1.length : Nat) : Int) - 1) = ((L1.length - 1 : Nat) : Int) := by rw [wrapIm (by omega) (by omega)]; omega
  have he := kd_111 KD ID OT WS n k c c' ws (j : Int) (hI L0) (tI L0) ((L0.length : Nat) : Int) (hI L1) (tI L1) ((L1.length : Nat) : Int) r w L0.length L1.length (mI L0) (mI L1) ((L1.getD (i + 1) 0 : Nat) : Int) ((L1.getD (i - 1) 0 : Nat) : Int) i
  have l0 : 4 * (x - 1) + 2 < 48 := by omega
  have l1 : 4 * (x - 1) < 48 := by omega
  have l2 : 4 * (L1.getD (i - 1) 0 - 1) + 2 < 48 := by omega
  have l3 : 4 * (L1.getD (i + 1) 0 - 1) < 48 := by omega
  have k1 : decide ((x : Int) < 1) = false := decide_eq_false (by omega)
  have k2 : decide ((12 : Int) < (x : Int)) = false := decide_eq_false (by omega)
  have k3 : decide ((0 : Int) < (i : Int)) = true := decide_eq_true (by omega)
  have k4 : decide ((i : Int) < ((L1.length - 1 : Nat) : Int)) = true := decide_eq_true (by omega)
  have k5 : (((L1.getD (i - 1) 0 : Nat) : Int) != 0) = true := by rw [bne_iff_ne]; omega
  have k6 : (((L1.getD (i + 1) 0 : Nat) : Int) != 0) = true := by rw [bne_iff_ne]; omega
  have uz : IntKind.u64.wrap (0 : Int) = 0 := rfl
  simp only [Int.toNat_natCast, zJ, hd_, Int.ofNat_eq_natCast, pN x1 x2, pP x1 x2, pN p1 p2, pP q1 q2, wrapU p2, wrapU q2, uz, zA, zB, o6, en, eN, eP] at he
  rw [conj_tm (by
    simp only [List.all_cons, List.all_nil, _root_.id, hk1, hk2, hk3, o1, o2, o3, o4, o5, k1, k2, k3, k4, k5, k6, hat, hno, a1 l0, a2 l0, a3 l0, a5 l0, a6 l0, a7 l0, a1 l1, a2 l1, a3 l1, a5 l1, a6 l1, a7 l1, a1 l2, a2 l2, a3 l2, a5 l2, a6 l2, a7 l2, a1 l3, a2 l3, a3 l3, a5 l3, a6 l3, a7 l3, a4, mI_len, cond_true, cond_false, Bool.not_false, Bool.not_true, Bool.and_true, beq_self_eq_true, bne_self_eq_false, Bool.or_true, Bool.true_and, Nat.beq_refl, Bool.and_eq_true, decide_eq_true_eq, Nat.ble_eq, List.length_set, hl, true_and, and_true]
    first
      | omega
      | (simp only [Nat.blt, Nat.ble_eq, Bool.and_eq_true, decide_eq_true_eq]; omega))] at he
  refine ⟨dropW ws L1 i, L0, L1.eraseIdx i, IntKind.u64.wrap (r + 2), IntKind.u64.wrap (w + 2), (hi.symm.drop hm).symm, ?_⟩
  rw [ew]
  exact fin_ KD ID OT WS n k c c' (σ := [(0, 0), (1, 1), (2, 2), (3, 3), (4, 4), (5, 5), (6, 6), (7, 7), (8, 8), (9, 21)]) (HEO_head (hE_kb ok_told0 (-1) (Int.ofNat i) i 8 ((L1.getD (i + 1) 0 : Nat) : Int) ((L1.getD (i - 1) 0 : Nat) : Int) [2, 0] [2, 1, 2, 0] [0, 0, 0] [2, 1, 1] [1, 1] 8) mixedM rfl he rfl) rfl
    (h0 := hI L0) (t0 := tI L0) (n0 := ((L0.length : Nat) : Int)) (h1 := hI L1) (t1 := tI L1) (n1 := ((L1.length - 1 : Nat) : Int)) (v0 := liV false 8 L0.length) (v1 := .sl false 9 1 0 1 ((mI L1).eraseIdx i).length none) (b8 := liK L0) (b9 := ⟨false, false, .col (.ints .i64 ((mI L1).eraseIdx i))⟩) (by kernel_rfl)
    (rfl) (rfl) (rfl) (by show _ = (((L1.eraseIdx i).getD 0 0 : Nat) : Int); rw [erase_h, if_neg (show ¬ i = 0 by omega)]) (by show _ = ((lastN (L1.eraseIdx i) : Nat) : Int); rw [erase_t hm, if_pos hb]) (by rw [nI, List.length_eraseIdx, if_pos hm]) (lowV.refl _ _) (low_slN (by omega) (by rw [mI_erase, mI_len])) .same (low_ints (mI_erase _ _))
theorem st_d1 (h : OpsIn KD ID OT n) (hj : j < n) (hk1 : (KD.getD j 0 == 1) = false) (hk2 : (KD.getD j 0 == 2) = false) (hk3 : (KD.getD j 0 == 3) = false) (hd_ : ID.getD j 0 = (x : Int)) (hi : KInv W ws L0 L1) (hm : i < L1.length) (hx : L1.getD i 0 = x) : Rnd KD ID OT WS n k c c' (hd Try.f4 1) W ws j r w L0 L1 := by
  by_cases ha : 0 < i
  · by_cases hb : i + 1 < L1.length
    · exact st_d111 KD ID OT WS n k c c' h hj hk1 hk2 hk3 hd_ hi hm hx ha hb
    · exact st_d110 KD ID OT WS n k c c' h hj hk1 hk2 hk3 hd_ hi hm hx ha hb
  · by_cases hb : i + 1 < L1.length
    · exact st_d101 KD ID OT WS n k c c' h hj hk1 hk2 hk3 hd_ hi hm hx (by omega) hb
    · exact st_d100 KD ID OT WS n k c c' h hj hk1 hk2 hk3 hd_ hi hm hx (by omega) hb
end
end Go.Proofs.Ytmjpikkloofakaa

namespace Go.Proofs.Ytmjpikkloofakaa
open Go Go.RowKit Go.Shelf
set_option maxRecDepth 100000
set_option maxHeartbeats 4000000
/-- The words behind an entry's coming. -/
def pushW (ws : List Int) (L : List Nat) (x : Nat) : List Int :=
  if 0 < L.length then ((ws.set (4 * (x - 1)) ((lastN L : Nat) : Int)).set (4 * (x - 1) + 2) 0).set (4 * (lastN L - 1) + 2) (x : Int) else (ws.set (4 * (x - 1)) ((lastN L : Nat) : Int)).set (4 * (x - 1) + 2) 0
theorem pushW_len {ws : List Int} {L : List Nat} {x : Nat} : (pushW ws L x).length = ws.length := by
  unfold pushW
  split <;> simp only [List.length_set]
theorem pushW_N {ws : List Int} {L : List Nat} {x : Nat} (hl : ws.length = 48) (hi : Ids L) (x1 : 1 ≤ x) (x2 : x ≤ 12) (y : Nat) (hy : 1 ≤ y) : wN (pushW ws L x) y = if 0 < L.length ∧ y = lastN L then (x : Int) else if y = x then 0 else wN ws y := by
  have key : wN ((ws.set (4 * (x - 1)) ((lastN L : Nat) : Int)).set (4 * (x - 1) + 2) 0) y = if y = x then 0 else wN ws y := by
    rw [wN_setN x1 (by rw [List.length_set]; omega) hy, wN_setP x1 (by omega)]
  unfold pushW
  by_cases h : 0 < L.length
  · obtain ⟨g1, g2⟩ := hi _ (getD_mem (L := L) (i := L.length - 1) (by omega))
    have g1 : 1 ≤ lastN L := g1
    have g2 : lastN L ≤ 12 := g2
    rw [if_pos h, wN_setN g1 (by rw [List.length_set, List.length_set]; omega) hy]
    by_cases e : y = lastN L
    · rw [if_pos e, if_pos (c := 0 < L.length ∧ y = lastN L) ⟨h, e⟩]
    · rw [if_neg e, key, if_neg (c := 0 < L.length ∧ y = lastN L) (fun hh => e hh.2)]
  · rw [if_neg h, key, if_neg (c := 0 < L.length ∧ y = lastN L) (fun hh => h hh.1)]
theorem pushW_P {ws : List Int} {L : List Nat} {x : Nat} (hl : ws.length = 48) (hi : Ids L) (x1 : 1 ≤ x) (x2 : x ≤ 12) (y : Nat) (hy : 1 ≤ y) : wP (pushW ws L x) y = if y = x then ((lastN L : Nat) : Int) else wP ws y := by
  have key : wP ((ws.set (4 * (x - 1)) ((lastN L : Nat) : Int)).set (4 * (x - 1) + 2) 0) y = if y = x then ((lastN L : Nat) : Int) else wP ws y := by
    rw [wP_setN x1 (by rw [List.length_set]; omega), wP_setP x1 (by omega) hy]
  unfold pushW
  by_cases h : 0 < L.length
  · obtain ⟨g1, g2⟩ := hi _ (getD_mem (L := L) (i := L.length - 1) (by omega))
    have g1 : 1 ≤ lastN L := g1
    have g2 : lastN L ≤ 12 := g2
    rw [if_pos h, wP_setN g1 (by rw [List.length_set, List.length_set]; omega), key]
  · rw [if_neg h, key]
theorem KInv.push {W ws : List Int} {L0 L1 : List Nat} {x : Nat} (h : KInv W ws L0 L1) (x1 : 1 ≤ x) (x2 : x ≤ 12) (h0 : x ∉ L0) (h1 : x ∉ L1) : KInv W (pushW ws L0 x) (L0 ++ [x]) L1 := by
  have hl := h.len
  refine ⟨by rw [pushW_len]; exact hl, fun y hy => ?_, h.ids1, ?_, Chn.push h.c0 h.ids0 (List.nodup_append.1 h.nd).1 h0 x1 (pushW_N hl h.ids0 x1 x2) (pushW_P hl h.ids0 x1 x2), ?_, ?_⟩
  · rcases List.mem_append.1 hy with hy | hy
    · exact h.ids0 y hy
    · rw [List.mem_singleton] at hy; subst hy; exact ⟨x1, x2⟩
  · have hp := List.nodup_append.1 h.nd
    rw [List.nodup_append, List.nodup_append]
    refine ⟨⟨hp.1, (List.nodup_cons.2 ⟨List.not_mem_nil, List.nodup_nil⟩), fun a ha b hb e => ?_⟩, hp.2.1, fun a ha b hb e => ?_⟩
    · rw [List.mem_singleton] at hb; subst hb; subst e; exact h0 ha
    · rcases List.mem_append.1 ha with ha | ha
      · exact hp.2.2 a ha b hb e
      · rw [List.mem_singleton] at ha; subst ha; subst e; exact h1 hb
  · refine Chn.frame h.c1 (fun y hy => ?_) (fun y hy => ?_)
    · rw [pushW_N hl h.ids0 x1 x2 y (h.ids1 y hy).1, if_neg, if_neg (c := y = x) (fun e => h1 (e ▸ hy))]
      rintro ⟨g1, g2⟩
      exact h.apart (g2 ▸ getD_mem (L := L0) (i := L0.length - 1) (by omega)) hy
    · rw [pushW_P hl h.ids0 x1 x2 y (h.ids1 y hy).1, if_neg (c := y = x) (fun e => h1 (e ▸ hy))]
  · have ho := (h.odd.set (k := 4 * (x - 1)) (v := ((lastN L0 : Nat) : Int)) (by omega) (by omega)).set (k := 4 * (x - 1) + 2) (v := 0) (by omega) (by rw [List.length_set]; omega)
    unfold pushW
    split
    · rename_i hh
      obtain ⟨g1, g2⟩ := h.ids0 _ (getD_mem (L := L0) (i := L0.length - 1) (by omega))
      have g1 : 1 ≤ lastN L0 := g1
      have g2 : lastN L0 ≤ 12 := g2
      exact ho.set (by omega) (by rw [List.length_set, List.length_set]; omega)
    · exact ho
theorem last_app (L : List Nat) (x : Nat) : lastN (L ++ [x]) = x := by
  unfold lastN
  rw [List.length_append, getN_app, if_neg (by simp), List.length_singleton, show L.length + 1 - 1 - L.length = 0 by omega]; rfl
theorem head_app {L : List Nat} (h : 0 < L.length) (x : Nat) : (L ++ [x]).getD 0 0 = L.getD 0 0 := by rw [getN_app, if_pos h]
theorem push_take {L : List Nat} (q : Nat) (x : Nat) (h : L.length = q + 1) : (List.take (q + 1) (List.take (q + 1) (List.drop 0 (mI L)))).append [(x : Int)] = mI (L ++ [x]) := by
  rw [List.drop_zero, List.take_of_length_le (l := mI L) (by rw [mI_len]; omega), List.take_of_length_le (l := mI L) (by rw [mI_len]; omega)]
  exact (List.map_append (f := Int.ofNat) (l₁ := L) (l₂ := [x])).symm
theorem atF_mem {L : List Nat} {x : Nat} (h : x ∉ L) : atF (mI L) (x : Int) L.length 0 = -1 := atF_no (fun y hy e => by
  have e : y = x := by omega
  subst e
  exact h hy) _ 0 (by omega)
section
variable (KD ID : List Int) (OT : List Bool) (WS : List Int) (n k : Nat) (c c' : Option Nat)
variable {W ws : List Int} {L0 L1 : List Nat} {j x i : Nat} {r w : Int}
theorem st_u0 (h : OpsIn KD ID OT n) (hj : j < n) (hk1 : (KD.getD j 0 == 1) = false) (hk2 : (KD.getD j 0 == 2) = false) (hk3 : (KD.getD j 0 == 3) = false) (hot : OT.getD j false = false) (hx : ¬ (1 ≤ ID.getD j 0 ∧ ID.getD j 0 ≤ 12)) (hi : KInv W ws L0 L1) : Rnd KD ID OT WS n k c c' (hd Try.f4 1) W ws j r w L0 L1 := by
  obtain ⟨o1, o2, o3, o4, o5, o6⟩ := opj KD ID OT n h hj
  have hle := hi.le
  have hb := out12 hx
  have no : ∀ L : List Nat, Ids L → atF (mI L) (ID.getD j 0) L.length 0 = -1 := fun L hL => atF_no (fun y hy e => hx (by have := hL y hy; omega)) _ 0 (by omega)
  have n0 := no L0 hi.ids0
  have n1 := no L1 hi.ids1
  have m1 : Nat.ble L0.length 4294967296 = true := Nat.ble_eq ▸ (by omega)
  have m2 : Nat.ble L1.length 4294967296 = true := Nat.ble_eq ▸ (by omega)
  have he := ku_i0 KD ID OT WS n k c c' ws (j : Int) (hI L0) (tI L0) (nI L0) (hI L1) (tI L1) (nI L1) r w L0.length L1.length (mI L0) (mI L1)
  simp only [Int.toNat_natCast, zJ, Int.ofNat_eq_natCast, o6] at he
  rw [conj_tm (by simp only [List.all_cons, List.all_nil, _root_.id, hk1, hk2, hk3, hb, hot, n0, n1, m1, m2, o1, o2, o3, o4, o5, a4, mI_len, Nat.beq_refl, Bool.and_true, Bool.or_true, Bool.not_false, decide_true])] at he
  exact st_same KD ID OT WS n k c c' (r' := r) (w' := w) hi (HEO_head (hE_kb ok_told0 (-1) (-1) 0 8 0 0 [2, 1] [2, 1, 2, 1, 2, 0, 1] [0, 0, 0] [2] [] 8) mixedM rfl he rfl) (by kernel_rfl)
theorem st_p00 (h : OpsIn KD ID OT n) (hj : j < n) (hk1 : (KD.getD j 0 == 1) = false) (hk2 : (KD.getD j 0 == 2) = false) (hk3 : (KD.getD j 0 == 3) = false) (hot : OT.getD j false = false) (hd_ : ID.getD j 0 = (x : Int)) (x1 : 1 ≤ x) (x2 : x ≤ 12) (hi : KInv W ws L0 L1) (h0 : x ∉ L0) (h1 : x ∉ L1) (hL : L0 = []) : Rnd KD ID OT WS n k c c' (hd Try.f4 1) W ws j r w L0 L1 := by
  subst hL
  obtain ⟨o1, o2, o3, o4, o5, o6⟩ := opj KD ID OT n h hj
  have hle := hi.le
  have hl := hi.len
  have k1 : decide ((x : Int) < 1) = false := decide_eq_false (by omega)
  have k2 : decide ((12 : Int) < (x : Int)) = false := decide_eq_false (by omega)
  have pn := pN x1 x2
  have pp := pP x1 x2
  have ux := wrapU x2
  have uz : IntKind.u64.wrap (0 : Int) = 0 := rfl
  have l0 : 4 * (x - 1) + 2 < 48 := by omega
  have l1 : 4 * (x - 1) < 48 := by omega
  have n1 := atF_mem h1
  have m2 : Nat.ble L1.length 4294967296 = true := Nat.ble_eq ▸ (by omega)
  have he := ku_e0 KD ID OT WS n k c c' ws (j : Int) 0 0 0 (hI L1) (tI L1) (nI L1) r w 0 L1.length [] (mI L1)
  simp only [Int.toNat_natCast, zJ, hd_, Int.ofNat_eq_natCast, pn, pp, uz, zA, zB, o6] at he
  rw [conj_tm (by
    simp only [List.all_cons, List.all_nil, _root_.id, hk1, hk2, hk3, hot, n1, m2, o1, o2, o3, o4, o5, k1, k2, a4, a1 l0, a2 l0, a3 l0, a5 l0, a6 l0, a7 l0, a1 l1, a2 l1, a3 l1, a5 l1, a6 l1, a7 l1, mI_len, cond_true, cond_false, Bool.not_false, Bool.not_true, Bool.and_true, Bool.or_true, Bool.true_and, Nat.beq_refl, decide_true, Bool.and_eq_true, decide_eq_true_eq, List.length_set, hl]
    omega)] at he
  refine ⟨pushW ws [] x, [x], L1, r, IntKind.u64.wrap (w + 2), hi.push x1 x2 h0 h1, ?_⟩
  rw [show pushW ws [] x = (ws.set (4 * (x - 1)) 0).set (4 * (x - 1) + 2) 0 from rfl]
  exact fin_ KD ID OT WS n k c c' (σ := [(0, 0), (1, 1), (2, 2), (3, 3), (4, 4), (5, 5), (6, 6), (7, 7), (8, 32), (9, 9)]) (HEO_head (hE_kb ok_told0 (-1) (-1) 0 8 0 0 [2, 0] [2, 1, 2, 1, 2, 0, 0] [0, 0, 0] [2, 1] [] 8) mixedM rfl he rfl) rfl
    (h0 := (x : Int)) (t0 := (x : Int)) (n0 := 1) (h1 := hI L1) (t1 := tI L1) (n1 := nI L1) (v0 := .sl true 8 1 0 1 1 none) (v1 := liV false 9 L1.length) (b8 := ⟨true, true, .col (.ints .i64 [(x : Int)])⟩) (b9 := liK L1) (by kernel_rfl)
    (rfl) (rfl) (rfl) (rfl) (rfl) (rfl) (low_slN (by omega) rfl) (lowV.refl _ _) (low_ints rfl) .same
theorem st_p01 {q : Nat} (h : OpsIn KD ID OT n) (hj : j < n) (hk1 : (KD.getD j 0 == 1) = false) (hk2 : (KD.getD j 0 == 2) = false) (hk3 : (KD.getD j 0 == 3) = false) (hot : OT.getD j false = false) (hd_ : ID.getD j 0 = (x : Int)) (x1 : 1 ≤ x) (x2 : x ≤ 12) (hi : KInv W ws L0 L1) (h0 : x ∉ L0) (h1 : x ∉ L1) (hL : L0.length = q + 1) : Rnd KD ID OT WS n k c c' (hd Try.f4 1) W ws j r w L0 L1 := by
  obtain ⟨o1, o2, o3, o4, o5, o6⟩ := opj KD ID OT n h hj
  have hle := hi.le
  have hl := hi.len
  have k1 : decide ((x : Int) < 1) = false := decide_eq_false (by omega)
  have k2 : decide ((12 : Int) < (x : Int)) = false := decide_eq_false (by omega)
  have pn := pN x1 x2
  have pp := pP x1 x2
  have ux := wrapU x2
  have uz : IntKind.u64.wrap (0 : Int) = 0 := rfl
  have l0 : 4 * (x - 1) + 2 < 48 := by omega
  have l1 : 4 * (x - 1) < 48 := by omega
  have n0 := atF_mem h0
  have m1 : Nat.ble L0.length 4294967296 = true := Nat.ble_eq ▸ (by omega)
  have n1 := atF_mem h1
  have m2 : Nat.ble L1.length 4294967296 = true := Nat.ble_eq ▸ (by omega)
  obtain ⟨t1, t2⟩ := hi.ids0 _ (getD_mem (L := L0) (i := L0.length - 1) (by omega))
  have t1 : 1 ≤ lastN L0 := t1
  have t2 : lastN L0 ≤ 12 := t2
  have pt := pN t1 t2
  have ut := wrapU t2
  have l2 : 4 * (lastN L0 - 1) + 2 < 48 := by omega
  have k5 : (((L0.length : Nat) : Int) == 0) = false := by rw [beq_eq_false_iff_ne]; omega
  have en : IntKind.i64.wrap (((L0.length : Nat) : Int) + 1) = ((L0.length + 1 : Nat) : Int) := upM (by omega)
  have nq : atF (mI L0) (x : Int) (q + 1) 0 = -1 := by rw [← hL]; exact atF_mem h0
  have k6 : (((q + 1 : Nat) : Int) == 0) = false := by rw [beq_eq_false_iff_ne]; omega
  have he := ku_n0 KD ID OT WS n k c c' ws (j : Int) (hI L0) ((lastN L0 : Nat) : Int) ((L0.length : Nat) : Int) (hI L1) ((lastN L1 : Nat) : Int) ((L1.length : Nat) : Int) r w q L1.length (mI L0) (mI L1)
  simp only [Int.toNat_natCast, zJ, hd_, Int.ofNat_eq_natCast, pn, pp, pt, ux, ut, uz, zA, zB, o6, en] at he
  rw [conj_tm (by
    simp only [List.all_cons, List.all_nil, _root_.id, hk1, hk2, hk3, hot, n0, n1, m1, m2, nq, k6, o1, o2, o3, o4, o5, k1, k2, k5, a4, a1 l0, a2 l0, a3 l0, a5 l0, a6 l0, a7 l0, a1 l1, a2 l1, a3 l1, a5 l1, a6 l1, a7 l1, a1 l2, a2 l2, a3 l2, a5 l2, a6 l2, a7 l2, mI_len, hL, cond_true, cond_false, Bool.not_false, Bool.not_true, Bool.and_true, Bool.or_true, Bool.true_and, Nat.beq_refl, decide_true, Bool.and_eq_true, decide_eq_true_eq, Nat.ble_eq, List.length_set, List.length_take, hl]
    omega)] at he
  refine ⟨pushW ws L0 x, L0 ++ [x], L1, r, IntKind.u64.wrap (w + IntKind.u64.wrap (IntKind.i64.wrap (2 + min ((q + 1 : Nat) : Int) 1))), hi.push x1 x2 h0 h1, ?_⟩
  rw [show pushW ws L0 x = ((ws.set (4 * (x - 1)) ((lastN L0 : Nat) : Int)).set (4 * (x - 1) + 2) 0).set (4 * (lastN L0 - 1) + 2) (x : Int) from by unfold pushW; rw [if_pos (by omega)]]
  have hg := Goes.hintK (P := Try.prog) (B := 2) (todo := hd Try.f4 1) (tm := kqT n k c c' (j : Int)) (m := ⟨kMs KD ID OT WS ws (hI L0) (tI L0) (nI L0) (hI L1) (tI L1) (nI L1) r w (liV false 8 L0.length) (liV false 9 L1.length) (liK L0) (liK L1), 10⟩) 1000001 1000003 (by show 10 ≤ 1000001; omega) (by omega)
  have eS : cSt KD ID OT WS n k c c' (hd Try.f4 1) ws j r w L0 L1 = ⟨hd Try.f4 1, kqT n k c c' (j : Int), ⟨kMs KD ID OT WS ws (hI L0) (tI L0) (nI L0) (hI L1) (tI L1) (nI L1) r w (liV false 8 (q + 1)) (liV false 9 L1.length) (liK L0) (liK L1), 10⟩⟩ := by unfold cSt; rw [hL]
  rw [hL] at hg
  rw [eS]
  exact fin_ KD ID OT WS n k c c' (σ := [(0, 0), (1, 1), (2, 2), (3, 3), (4, 4), (5, 5), (6, 6), (7, 7), (8, 1000030), (9, 9)]) (hg.trans (HEO_head (hE_kb ok_told0 (-1) (-1) 0 8 0 0 [2, 0] [2, 1, 2, 1, 2, 0, 0] [0, 0, 0] [2, 0] [] 8) mixedM rfl he rfl)) rfl
    (h0 := hI L0) (t0 := (x : Int)) (n0 := ((L0.length + 1 : Nat) : Int)) (h1 := hI L1) (t1 := tI L1) (n1 := nI L1) (v0 := .sl true 8 1 0 1 (q + 1 + 1) none) (v1 := liV false 9 L1.length) (b8 := ⟨true, true, .col (.ints .i64 ((List.take (q + 1) (List.take (q + 1) (List.drop 0 (mI L0)))).append [(x : Int)]))⟩) (b9 := liK L1) (by kernel_rfl)
    (by show _ = (((L0 ++ [x]).getD 0 0 : Nat) : Int); rw [head_app (by omega)]) (by show _ = ((lastN (L0 ++ [x]) : Nat) : Int); rw [last_app]) (by show _ = (((L0 ++ [x]).length : Nat) : Int); rw [List.length_append]; rfl) (rfl) (rfl) (rfl) (low_slN (by omega) (by rw [List.length_append, hL]; rfl)) (lowV.refl _ _) (low_ints (push_take q x hL)) .same
theorem st_u1 (h : OpsIn KD ID OT n) (hj : j < n) (hk1 : (KD.getD j 0 == 1) = false) (hk2 : (KD.getD j 0 == 2) = false) (hk3 : (KD.getD j 0 == 3) = false) (hot : OT.getD j false = true) (hx : ¬ (1 ≤ ID.getD j 0 ∧ ID.getD j 0 ≤ 12)) (hi : KInv W ws L0 L1) : Rnd KD ID OT WS n k c c' (hd Try.f4 1) W ws j r w L0 L1 := by
  obtain ⟨o1, o2, o3, o4, o5, o6⟩ := opj KD ID OT n h hj
  have hle := hi.le
  have hb := out12 hx
  have no : ∀ L : List Nat, Ids L → atF (mI L) (ID.getD j 0) L.length 0 = -1 := fun L hL => atF_no (fun y hy e => hx (by have := hL y hy; omega)) _ 0 (by omega)
  have n0 := no L0 hi.ids0
  have n1 := no L1 hi.ids1
  have m1 : Nat.ble L0.length 4294967296 = true := Nat.ble_eq ▸ (by omega)
  have m2 : Nat.ble L1.length 4294967296 = true := Nat.ble_eq ▸ (by omega)
  have he := ku_i1 KD ID OT WS n k c c' ws (j : Int) (hI L0) (tI L0) (nI L0) (hI L1) (tI L1) (nI L1) r w L0.length L1.length (mI L0) (mI L1)
  simp only [Int.toNat_natCast, zJ, Int.ofNat_eq_natCast, o6] at he
  rw [conj_tm (by simp only [List.all_cons, List.all_nil, _root_.id, hk1, hk2, hk3, hb, hot, n0, n1, m1, m2, o1, o2, o3, o4, o5, a4, mI_len, Nat.beq_refl, Bool.and_true, Bool.or_true, Bool.not_false, decide_true])] at he
  exact st_same KD ID OT WS n k c c' (r' := r) (w' := w) hi (HEO_head (hE_kb ok_told0 (-1) (-1) 0 8 0 0 [2, 1] [2, 1, 2, 1, 2, 1, 1] [0, 0, 0] [2] [] 8) mixedM rfl he rfl) (by kernel_rfl)
theorem st_p10 (h : OpsIn KD ID OT n) (hj : j < n) (hk1 : (KD.getD j 0 == 1) = false) (hk2 : (KD.getD j 0 == 2) = false) (hk3 : (KD.getD j 0 == 3) = false) (hot : OT.getD j false = true) (hd_ : ID.getD j 0 = (x : Int)) (x1 : 1 ≤ x) (x2 : x ≤ 12) (hi : KInv W ws L0 L1) (h0 : x ∉ L0) (h1 : x ∉ L1) (hL : L1 = []) : Rnd KD ID OT WS n k c c' (hd Try.f4 1) W ws j r w L0 L1 := by
  subst hL
  obtain ⟨o1, o2, o3, o4, o5, o6⟩ := opj KD ID OT n h hj
  have hle := hi.le
  have hl := hi.len
  have k1 : decide ((x : Int) < 1) = false := decide_eq_false (by omega)
  have k2 : decide ((12 : Int) < (x : Int)) = false := decide_eq_false (by omega)
  have pn := pN x1 x2
  have pp := pP x1 x2
  have ux := wrapU x2
  have uz : IntKind.u64.wrap (0 : Int) = 0 := rfl
  have l0 : 4 * (x - 1) + 2 < 48 := by omega
  have l1 : 4 * (x - 1) < 48 := by omega
  have n0 := atF_mem h0
  have m1 : Nat.ble L0.length 4294967296 = true := Nat.ble_eq ▸ (by omega)
  have he := ku_e1 KD ID OT WS n k c c' ws (j : Int) (hI L0) (tI L0) (nI L0) 0 0 0 r w L0.length 0 (mI L0) []
  simp only [Int.toNat_natCast, zJ, hd_, Int.ofNat_eq_natCast, pn, pp, uz, zA, zB, o6] at he
  rw [conj_tm (by
    simp only [List.all_cons, List.all_nil, _root_.id, hk1, hk2, hk3, hot, n0, m1, o1, o2, o3, o4, o5, k1, k2, a4, a1 l0, a2 l0, a3 l0, a5 l0, a6 l0, a7 l0, a1 l1, a2 l1, a3 l1, a5 l1, a6 l1, a7 l1, mI_len, cond_true, cond_false, Bool.not_false, Bool.not_true, Bool.and_true, Bool.or_true, Bool.true_and, Nat.beq_refl, decide_true, Bool.and_eq_true, decide_eq_true_eq, List.length_set, hl]
    omega)] at he
  refine ⟨pushW ws [] x, L0, [x], r, IntKind.u64.wrap (w + 2), (hi.symm.push x1 x2 h1 h0).symm, ?_⟩
  rw [show pushW ws [] x = (ws.set (4 * (x - 1)) 0).set (4 * (x - 1) + 2) 0 from rfl]
  exact fin_ KD ID OT WS n k c c' (σ := [(0, 0), (1, 1), (2, 2), (3, 3), (4, 4), (5, 5), (6, 6), (7, 7), (8, 8), (9, 32)]) (HEO_head (hE_kb ok_told0 (-1) (-1) 0 8 0 0 [2, 0] [2, 1, 2, 1, 2, 1, 0] [0, 0, 0] [2, 1] [] 8) mixedM rfl he rfl) rfl
    (h0 := hI L0) (t0 := tI L0) (n0 := nI L0) (h1 := (x : Int)) (t1 := (x : Int)) (n1 := 1) (v0 := liV false 8 L0.length) (v1 := .sl true 9 1 0 1 1 none) (b8 := liK L0) (b9 := ⟨true, true, .col (.ints .i64 [(x : Int)])⟩) (by kernel_rfl)
    (rfl) (rfl) (rfl) (rfl) (rfl) (rfl) (lowV.refl _ _) (low_slN (by omega) rfl) .same (low_ints rfl)
theorem st_p11 {q : Nat} (h : OpsIn KD ID OT n) (hj : j < n) (hk1 : (KD.getD j 0 == 1) = false) (hk2 : (KD.getD j 0 == 2) = false) (hk3 : (KD.getD j 0 == 3) = false) (hot : OT.getD j false = true) (hd_ : ID.getD j 0 = (x : Int)) (x1 : 1 ≤ x) (x2 : x ≤ 12) (hi : KInv W ws L0 L1) (h0 : x ∉ L0) (h1 : x ∉ L1) (hL : L1.length = q + 1) : Rnd KD ID OT WS n k c c' (hd Try.f4 1) W ws j r w L0 L1 := by
  obtain ⟨o1, o2, o3, o4, o5, o6⟩ := opj KD ID OT n h hj
  have hle := hi.le
  have hl := hi.len
  have k1 : decide ((x : Int) < 1) = false := decide_eq_false (by omega)
  have k2 : decide ((12 : Int) < (x : Int)) = false := decide_eq_false (by omega)
  have pn := pN x1 x2
  have pp := pP x1 x2
  have ux := wrapU x2
  have uz : IntKind.u64.wrap (0 : Int) = 0 := rfl
  have l0 : 4 * (x - 1) + 2 < 48 := by omega
  have l1 : 4 * (x - 1) < 48 := by omega
  have n0 := atF_mem h0
  have m1 : Nat.ble L0.length 4294967296 = true := Nat.ble_eq ▸ (by omega)
  have n1 := atF_mem h1
  have m2 : Nat.ble L1.length 4294967296 = true := Nat.ble_eq ▸ (by omega)
  obtain ⟨t1, t2⟩ := hi.ids1 _ (getD_mem (L := L1) (i := L1.length - 1) (by omega))
  have t1 : 1 ≤ lastN L1 := t1
  have t2 : lastN L1 ≤ 12 := t2
  have pt := pN t1 t2
  have ut := wrapU t2
  have l2 : 4 * (lastN L1 - 1) + 2 < 48 := by omega
  have k5 : (((L1.length : Nat) : Int) == 0) = false := by rw [beq_eq_false_iff_ne]; omega
  have en : IntKind.i64.wrap (((L1.length : Nat) : Int) + 1) = ((L1.length + 1 : Nat) : Int) := upM (by omega)
  have nq : atF (mI L1) (x : Int) (q + 1) 0 = -1 := by rw [← hL]; exact atF_mem h1
  have k6 : (((q + 1 : Nat) : Int) == 0) = false := by rw [beq_eq_false_iff_ne]; omega
  have he := ku_n1 KD ID OT WS n k c c' ws (j : Int) (hI L0) ((lastN L0 : Nat) : Int) ((L0.length : Nat) : Int) (hI L1) ((lastN L1 : Nat) : Int) ((L1.length : Nat) : Int) r w L0.length q (mI L0) (mI L1)
  simp only [Int.toNat_natCast, zJ, hd_, Int.ofNat_eq_natCast, pn, pp, pt, ux, ut, uz, zA, zB, o6, en] at he
  rw [conj_tm (by
    simp only [List.all_cons, List.all_nil, _root_.id, hk1, hk2, hk3, hot, n0, n1, m1, m2, nq, k6, o1, o2, o3, o4, o5, k1, k2, k5, a4, a1 l0, a2 l0, a3 l0, a5 l0, a6 l0, a7 l0, a1 l1, a2 l1, a3 l1, a5 l1, a6 l1, a7 l1, a1 l2, a2 l2, a3 l2, a5 l2, a6 l2, a7 l2, mI_len, hL, cond_true, cond_false, Bool.not_false, Bool.not_true, Bool.and_true, Bool.or_true, Bool.true_and, Nat.beq_refl, decide_true, Bool.and_eq_true, decide_eq_true_eq, Nat.ble_eq, List.length_set, List.length_take, hl]
    omega)] at he
  refine ⟨pushW ws L1 x, L0, L1 ++ [x], r, IntKind.u64.wrap (w + IntKind.u64.wrap (IntKind.i64.wrap (2 + min ((q + 1 : Nat) : Int) 1))), (hi.symm.push x1 x2 h1 h0).symm, ?_⟩
  rw [show pushW ws L1 x = ((ws.set (4 * (x - 1)) ((lastN L1 : Nat) : Int)).set (4 * (x - 1) + 2) 0).set (4 * (lastN L1 - 1) + 2) (x : Int) from by unfold pushW; rw [if_pos (by omega)]]
  have hg := Goes.hintK (P := Try.prog) (B := 2) (todo := hd Try.f4 1) (tm := kqT n k c c' (j : Int)) (m := ⟨kMs KD ID OT WS ws (hI L0) (tI L0) (nI L0) (hI L1) (tI L1) (nI L1) r w (liV false 8 L0.length) (liV false 9 L1.length) (liK L0) (liK L1), 10⟩) 1000001 1000003 (by show 10 ≤ 1000001; omega) (by omega)
  have eS : cSt KD ID OT WS n k c c' (hd Try.f4 1) ws j r w L0 L1 = ⟨hd Try.f4 1, kqT n k c c' (j : Int), ⟨kMs KD ID OT WS ws (hI L0) (tI L0) (nI L0) (hI L1) (tI L1) (nI L1) r w (liV false 8 L0.length) (liV false 9 (q + 1)) (liK L0) (liK L1), 10⟩⟩ := by unfold cSt; rw [hL]
  rw [hL] at hg
  rw [eS]
  exact fin_ KD ID OT WS n k c c' (σ := [(0, 0), (1, 1), (2, 2), (3, 3), (4, 4), (5, 5), (6, 6), (7, 7), (8, 8), (9, 1000030)]) (hg.trans (HEO_head (hE_kb ok_told0 (-1) (-1) 0 8 0 0 [2, 0] [2, 1, 2, 1, 2, 1, 0] [0, 0, 0] [2, 0] [] 8) mixedM rfl he rfl)) rfl
    (h0 := hI L0) (t0 := tI L0) (n0 := nI L0) (h1 := hI L1) (t1 := (x : Int)) (n1 := ((L1.length + 1 : Nat) : Int)) (v0 := liV false 8 L0.length) (v1 := .sl true 9 1 0 1 (q + 1 + 1) none) (b8 := liK L0) (b9 := ⟨true, true, .col (.ints .i64 ((List.take (q + 1) (List.take (q + 1) (List.drop 0 (mI L1)))).append [(x : Int)]))⟩) (by kernel_rfl)
    (rfl) (rfl) (rfl) (by show _ = (((L1 ++ [x]).getD 0 0 : Nat) : Int); rw [head_app (by omega)]) (by show _ = ((lastN (L1 ++ [x]) : Nat) : Int); rw [last_app]) (by show _ = (((L1 ++ [x]).length : Nat) : Int); rw [List.length_append]; rfl) (lowV.refl _ _) (low_slN (by omega) (by rw [List.length_append, hL]; rfl)) .same (low_ints (push_take q x hL))
end
end Go.Proofs.Ytmjpikkloofakaa

namespace Go.Proofs.Ytmjpikkloofakaa
open Go Go.RowKit Go.Shelf
set_option maxRecDepth 100000
set_option maxHeartbeats 4000000
theorem Chn.walk {ws : List Int} {L : List Nat} (h : Chn (wN ws) (wP ws) L) (hi : Ids L) : ∀ (M : List Nat) (i : Nat), L.drop i = M → Walk 48 ws M
  | [], _, _ => trivial
  | [x], i, e => by
    have hx : x ∈ L := (List.drop_sublist i L).subset (by rw [e]; exact List.mem_singleton.2 rfl)
    have := hi x hx
    exact ⟨this.1, by omega⟩
  | x :: y :: r, i, e => by
    have hlen : L.length - i = r.length + 2 := by rw [← List.length_drop, e]; rfl
    have hx : x ∈ L := (List.drop_sublist i L).subset (by rw [e]; exact List.mem_cons_self)
    have g := hi x hx
    have e1 : L.getD i 0 = x := by
      have := congrArg (fun l => l.getD 0 0) e
      simp only [List.getD_eq_getElem?_getD, List.getElem?_drop] at this ⊢
      exact this
    have e2 : L.getD (i + 1) 0 = y := by
      have := congrArg (fun l => l.getD 1 0) e
      simp only [List.getD_eq_getElem?_getD, List.getElem?_drop] at this ⊢
      exact this
    have hc := (h i (by omega)).1
    rw [e1, e2] at hc
    refine ⟨g.1, by omega, hc, Chn.walk h hi (y :: r) (i + 1) ?_⟩
    rw [← List.drop_drop, e]; rfl
theorem KInv.walk {W ws : List Int} {L0 L1 : List Nat} (h : KInv W ws L0 L1) : walkB 48 ws L0 = true := (walk_iff _).2 (h.c0.walk h.ids0 L0 0 rfl)
section
variable (KD ID : List Int) (OT : List Bool) (WS : List Int) (n k : Nat) (c c' : Option Nat)
variable {W ws : List Int} {L0 L1 : List Nat} {j : Nat} {r w : Int}
theorem st_told (h : OpsIn KD ID OT n) (hj : j < n) (hk : KD.getD j 0 = 3) (hi : KInv W ws L0 L1) : Rnd KD ID OT WS n k c c' (hd Try.f4 1) W ws j r w L0 L1 := by
  obtain ⟨o1, o2, o3, o4, o5, o6⟩ := opj KD ID OT n h hj
  have hle := hi.le
  have hl := hi.len
  have hk1 : ((3 : Int) == 1) = false := rfl
  have hk2 : ((3 : Int) == 2) = false := rfl
  match L0, hi, hle with
  | [], hi, hle =>
    have he := kt_0 KD ID OT WS n k c c' ws (j : Int) 0 0 0 (hI L1) (tI L1) (nI L1) r w 0 L1.length [] (mI L1)
    simp only [Int.toNat_natCast, zJ, hk, Int.ofNat_eq_natCast, o6] at he
    have e0 : min (max (ID.getD j 0) 1) 0 = (0 : Int) := by omega
    rw [e0] at he
    rw [conj_tm (by simp only [List.all_cons, List.all_nil, _root_.id, hk1, hk2, o1, o2, o3, o4, o5, a4, Bool.and_true, beq_self_eq_true, Bool.not_false, Bool.false_or]; decide)] at he
    exact st_same KD ID OT WS n k c c' (r' := r) (w' := w) hi (HEO_head (hE_kc ok_nil ok_told0 [0, 0, 1, 0] 8) mixedM rfl he rfl) (by kernel_rfl)
  | x :: l, hi, hle =>
    have hw := hi.walk
    generalize hz : ID.getD j 0 = z
    simp only [List.length_cons] at hle
    have key : min (max z 1) ((l.length + 1 : Nat) : Int) = max z 1 ∨ ¬ min (max z 1) ((l.length + 1 : Nat) : Int) = max z 1 := by omega
    have q1 : 0 < min (max z 1) ((l.length + 1 : Nat) : Int) := by omega
    have q2 : min (max z 1) ((l.length + 1 : Nat) : Int) ≤ ((l.length + 1 : Nat) : Int) := by omega
    have q3 : (List.take (max z 1).toNat (List.map Int.ofNat (x :: l))).length ≤ l.length + 1 := by rw [List.length_take, List.length_map, List.length_cons]; omega
    rcases key with hb | hb
    · have he := kt_2 KD ID OT WS n k c c' ws (j : Int) (x : Int) (tI (x :: l)) ((l.length + 1 : Nat) : Int) (hI L1) (tI L1) (nI L1) r w (l.length + 1) L1.length (mI (x :: l)) (mI L1) x l
      simp only [Int.toNat_natCast, zJ, hk, hz, Int.ofNat_eq_natCast, o6] at he
      rw [conj_tm (by
        simp only [List.all_cons, List.all_nil, _root_.id, hk1, hk2, hw, hl, o1, o2, o3, o4, o5, a4, hb, Bool.and_true, Bool.true_and, beq_self_eq_true, Bool.not_false, Bool.false_or, decide_true, mI_len, List.length_cons, Bool.and_eq_true, decide_eq_true_eq, Nat.ble_eq]
        omega)] at he
      exact st_same KD ID OT WS n k c c' (r' := IntKind.u64.wrap (IntKind.u64.wrap (r + IntKind.u64.wrap (min (max z 1) ((l.length + 1 : Nat) : Int))) - 1)) (w' := w) hi (HEO_head (hE_kc ok_sameT (ok_told x l) [0, 0, 1, 1, 1] 8) mixedM rfl he rfl) (by kernel_rfl)
    · have he := kt_1 KD ID OT WS n k c c' ws (j : Int) (x : Int) (tI (x :: l)) ((l.length + 1 : Nat) : Int) (hI L1) (tI L1) (nI L1) r w (l.length + 1) L1.length (mI (x :: l)) (mI L1) x l
      have hb' : (min (max z 1) ((l.length + 1 : Nat) : Int) == max z 1) = false := by rw [beq_eq_false_iff_ne]; exact hb
      simp only [Int.toNat_natCast, zJ, hk, hz, Int.ofNat_eq_natCast, o6] at he
      rw [conj_tm (by
        simp only [List.all_cons, List.all_nil, _root_.id, hk1, hk2, hw, hl, o1, o2, o3, o4, o5, a4, hb', Bool.and_true, Bool.true_and, beq_self_eq_true, Bool.not_false, Bool.false_or, decide_true, mI_len, List.length_cons, Bool.and_eq_true, decide_eq_true_eq, Nat.ble_eq]
        omega)] at he
      exact st_same KD ID OT WS n k c c' (r' := IntKind.u64.wrap (r + IntKind.u64.wrap (min (max z 1) ((l.length + 1 : Nat) : Int)))) (w' := w) hi (HEO_head (hE_kc ok_sameT (ok_told x l) [0, 0, 1, 1, 0] 8) mixedM rfl he rfl) (by kernel_rfl)
theorem st_turn (h : OpsIn KD ID OT n) (hj : j < n) (hk1 : (KD.getD j 0 == 1) = false) (hk2 : (KD.getD j 0 == 2) = false) (hk3 : (KD.getD j 0 == 3) = false) (hi : KInv W ws L0 L1) : Rnd KD ID OT WS n k c c' (hd Try.f4 1) W ws j r w L0 L1 := by
  by_cases hx : 1 ≤ ID.getD j 0 ∧ ID.getD j 0 ≤ 12
  · obtain ⟨x, hx'⟩ := Int.eq_ofNat_of_zero_le (show 0 ≤ ID.getD j 0 by omega)
    have hx' : ID.getD j 0 = (x : Int) := hx'
    rw [hx'] at hx
    have x1 : 1 ≤ x := by omega
    have x2 : x ≤ 12 := by omega
    have at_ : ∀ L : List Nat, x ∈ L → ∃ i, i < L.length ∧ L.getD i 0 = x := fun L hm => by
      obtain ⟨i, hi, e⟩ := List.getElem_of_mem hm
      exact ⟨i, hi, by rw [List.getD_eq_getElem?_getD, List.getElem?_eq_getElem hi, e]; rfl⟩
    by_cases h0 : x ∈ L0
    · obtain ⟨i, hm, e⟩ := at_ L0 h0
      exact st_d0 KD ID OT WS n k c c' h hj hk1 hk2 hk3 hx' hi hm e
    · by_cases h1 : x ∈ L1
      · obtain ⟨i, hm, e⟩ := at_ L1 h1
        exact st_d1 KD ID OT WS n k c c' h hj hk1 hk2 hk3 hx' hi hm e
      · cases hot : OT.getD j false with
        | false =>
          by_cases hq : L0 = []
          · exact st_p00 KD ID OT WS n k c c' h hj hk1 hk2 hk3 hot hx' x1 x2 hi h0 h1 hq
          · have : 0 < L0.length := List.length_pos_iff.2 hq
            exact st_p01 KD ID OT WS n k c c' (q := L0.length - 1) h hj hk1 hk2 hk3 hot hx' x1 x2 hi h0 h1 (by omega)
        | true =>
          by_cases hq : L1 = []
          · exact st_p10 KD ID OT WS n k c c' h hj hk1 hk2 hk3 hot hx' x1 x2 hi h0 h1 hq
          · have : 0 < L1.length := List.length_pos_iff.2 hq
            exact st_p11 KD ID OT WS n k c c' (q := L1.length - 1) h hj hk1 hk2 hk3 hot hx' x1 x2 hi h0 h1 (by omega)
  · cases hot : OT.getD j false with
    | false => exact st_u0 KD ID OT WS n k c c' h hj hk1 hk2 hk3 hot hx hi
    | true => exact st_u1 KD ID OT WS n k c c' h hj hk1 hk2 hk3 hot hx hi
theorem st_any (h : OpsIn KD ID OT n) (hj : j < n) (hi : KInv W ws L0 L1) : Rnd KD ID OT WS n k c c' (hd Try.f4 1) W ws j r w L0 L1 := by
  by_cases k1 : KD.getD j 0 = 1
  · exact st_join KD ID OT WS n k c c' h hj k1 hi
  · by_cases k2 : KD.getD j 0 = 2
    · exact st_after KD ID OT WS n k c c' h hj k2 hi
    · by_cases k3 : KD.getD j 0 = 3
      · exact st_told KD ID OT WS n k c c' h hj k3 hi
      · exact st_turn KD ID OT WS n k c c' h hj (beq_eq_false_iff_ne.2 k1) (beq_eq_false_iff_ne.2 k2) (beq_eq_false_iff_ne.2 k3) hi
theorem ops_all (h : OpsIn KD ID OT n) : ∀ (d j : Nat) (ws : List Int) (r w : Int) (L0 L1 : List Nat), j + d = n → KInv W ws L0 L1 →
    ∃ ws' L0' L1' r' w', KInv W ws' L0' L1' ∧ Goes Try.prog 2 (cSt KD ID OT WS n k c c' (hd Try.f4 1) ws j r w L0 L1) (cSt KD ID OT WS n k c c' (hd Try.f4 1) ws' n r' w' L0' L1')
  | 0, j, ws, r, w, L0, L1, e, hi => by
    have e : j = n := by omega
    subst e
    exact ⟨ws, L0, L1, r, w, hi, Goes.refl⟩
  | d + 1, j, ws, r, w, L0, L1, e, hi => by
    obtain ⟨ws1, M0, M1, r1, w1, h1, g1⟩ := st_any KD ID OT WS n k c c' (r := r) (w := w) h (show j < n by omega) hi
    obtain ⟨ws2, N0, N1, r2, w2, h2, g2⟩ := ops_all h d (j + 1) ws1 r1 w1 M0 M1 (by omega) h1
    exact ⟨ws2, N0, N1, r2, w2, h2, g1.trans g2⟩
end
end Go.Proofs.Ytmjpikkloofakaa

namespace Go.Proofs.Ytmjpikkloofakaa
open Go Go.RowKit Go.Shelf
set_option maxRecDepth 100000
set_option maxHeartbeats 4000000
/-- Where a word stands. -/
def pos (i : Nat) : Nat := 4 * (i / 2) + 1 + 2 * (i % 2)
theorem pos_le {i : Nat} (h : i < 24) : pos i < 48 := by unfold pos; omega
theorem pos_odd (i : Nat) : pos i % 2 = 1 := by unfold pos; omega
theorem pos_inj {i j : Nat} (h : pos i = pos j) : i = j := by unfold pos at h; omega
theorem pos_eq {i : Nat} (h : i < 24) : IntKind.i64.wrap (IntKind.i64.wrap (IntKind.i64.wrap ((4 : Int) * IntKind.i64.wrap ((i : Int).tdiv 2)) + 1) + IntKind.i64.wrap ((2 : Int) * (i : Int).tmod 2)) = ((pos i : Nat) : Int) := by
  have e1 : (i : Int).tdiv 2 = ((i / 2 : Nat) : Int) := by rw [Int.tdiv_eq_ediv_of_nonneg (by omega)]; omega
  have e2 : (i : Int).tmod 2 = ((i % 2 : Nat) : Int) := by rw [Int.tmod_eq_emod_of_nonneg (by omega)]; omega
  rw [e1, e2]
  unfold pos
  rw [wrapIm (n := ((i / 2 : Nat) : Int)) (by omega) (by omega), wrapIm (n := (4 : Int) * ((i / 2 : Nat) : Int)) (by omega) (by omega), wrapIm (n := (4 : Int) * ((i / 2 : Nat) : Int) + 1) (by omega) (by omega), wrapIm (n := (2 : Int) * ((i % 2 : Nat) : Int)) (by omega) (by omega), wrapIm (by omega) (by omega)]
  omega
def Put (WS ws : List Int) (i : Nat) : Prop := ws.length = 48 ∧ ∀ q, q < i → ws.getD (pos q) 0 = WS.getD q 0
theorem Put.next {WS ws : List Int} {i : Nat} (h : Put WS ws i) (hi : i < 24) : Put WS (ws.set (pos i) (WS.getD i 0)) (i + 1) := by
  have := pos_le hi
  refine ⟨by rw [List.length_set]; exact h.1, fun q hq => ?_⟩
  rw [set_getI _ _ _ _ (by rw [h.1]; exact this)]
  by_cases e : q = i
  · subst e; rw [if_pos rfl]
  · rw [if_neg (fun hh => e (pos_inj hh))]
    exact h.2 q (by omega)
theorem rels_unk {ρ : Rho} {nx : Nat} : ∀ {us : List AV} {xs : List Value} (i : Nat), AV.rels ρ nx us xs → AV.rels ρ nx (us.set i .unk) xs
  | [], xs, i, h => by simpa using h
  | a :: us, xs, 0, h => by
    simp only [AV.rels, List.set_cons_zero] at h ⊢
    obtain ⟨y, ys, e, _, h2⟩ := h
    exact ⟨y, ys, e, trivial, h2⟩
  | a :: us, xs, i + 1, h => by
    simp only [AV.rels, List.set_cons_succ] at h ⊢
    obtain ⟨y, ys, e, h1, h2⟩ := h
    exact ⟨y, ys, e, h1, rels_unk i h2⟩
theorem Goes.unk {P : Program} {B : Nat} {todo : List Item} {tm : List AV} {m : MS} (i : Nat) : Goes P B ⟨todo, tm, m⟩ ⟨todo, tm.set i .unk, m⟩ := Goes.weak fun _ _ h => rels_unk i h
section
variable (KD ID : List Int) (OT : List Bool) (WS : List Int) (n k : Nat) (c c' : Option Nat)
variable {W ws : List Int} {L0 L1 : List Nat} {j : Nat} {r w : Int}
/-- The words are written. -/
theorem put_all (hk : k ≤ 24) (hw : WS.length = k) : ∀ (d i : Nat) (ws : List Int), i + d = k → Put WS ws i → ∃ ws', Put WS ws' k ∧
    Goes Try.prog 2 ⟨hd Try.f4 0, kT n k c c' (vi (i : Int)) .unk .unk, ⟨[opB KD ID OT, woB WS] ++ kB true true ws, 7⟩⟩ ⟨hd Try.f4 0, kT n k c c' (vi (k : Int)) .unk .unk, ⟨[opB KD ID OT, woB WS] ++ kB true true ws', 7⟩⟩
  | 0, i, ws, e, h => by
    have e : i = k := by omega
    subst e
    exact ⟨ws, h, Goes.refl⟩
  | d + 1, i, ws, e, h => by
    have hp := pos_le (i := i) (by omega)
    have o1 : decide ((i : Int) < (k : Int)) = true := decide_eq_true (by omega)
    have o2 : decide (i < k) = true := decide_eq_true (by omega)
    have o3 : decide (i + 0 < WS.length) = true := decide_eq_true (by omega)
    have o4 : decide (pos i < ws.length) = true := decide_eq_true (by rw [h.1]; exact hp)
    have he := kp_w KD ID OT WS n k c c' ws (i : Int)
    simp only [Int.toNat_natCast, pos_eq (i := i) (by omega), zJ, zA, zB, Int.ofNat_eq_natCast, upM (show i ≤ 4294967296 by omega)] at he
    rw [conj_tm (by simp only [List.all_cons, List.all_nil, _root_.id, o1, o2, o3, o4, a1 hp, a2 hp, a3 hp, a4, a5 hp, a6 hp, a7 hp, cond_false, Bool.not_false, Bool.and_true])] at he
    obtain ⟨ws', h1, g1⟩ := put_all hk hw d (i + 1) (ws.set (pos i) (WS.getD i 0)) (by omega) (h.next (by omega))
    refine ⟨ws', h1, (HEO_head (hE_kp ok_told0 0 0 0 99 [2, 0] [] [] 8) mixedM rfl he rfl).trans (Goes.trans ?_ g1)⟩
    have h2 := Goes.ren (P := Try.prog) (σ := [(0, 0), (1, 1), (2, 2), (3, 3), (4, 4), (5, 5), (6, 6)]) (nx := 7) (B := 2) (s := ⟨hd Try.f4 0, kT n k c c' (vi ((i + 1 : Nat) : Int)) .unk .unk, ⟨[opB KD ID OT, woB WS] ++ kB true true (ws.set (pos i) (WS.getD i 0)), 90⟩⟩) rfl
    exact h2
/-- The law, but for its ends. -/
theorem kp_mid (hk : k ≤ 24) (hw : WS.length = k) (ho : OpsIn KD ID OT n) : ∃ W ws L0 L1 r w, Put WS W k ∧ KInv W ws L0 L1 ∧
    Goes Try.prog 2 ⟨hd Try.f4 0, kT n k c c' (vi 0) .unk .unk, ⟨[opB KD ID OT, woB WS] ++ kB true true (List.replicate 48 0), 7⟩⟩ (cSt KD ID OT WS n k c c' (hd Try.f4 1) ws n r w L0 L1) := by
  obtain ⟨W, h1, g1⟩ := put_all KD ID OT WS n k c c' hk hw k 0 (List.replicate 48 0) (by omega) ⟨rfl, fun q hq => absurd hq (by omega)⟩
  have hi : KInv W W [] [] := ⟨h1.1, (fun x hx => by cases hx), (fun x hx => by cases hx), List.nodup_nil, (fun i hi => by cases hi), (fun i hi => by cases hi), Odd.refl _⟩
  obtain ⟨ws, L0, L1, r, w, h2, g2⟩ := ops_all KD ID OT WS n k c c' ho n 0 W 0 0 [] [] (by omega) hi
  refine ⟨W, ws, L0, L1, r, w, h1, h2, g1.trans (Goes.trans ?_ g2)⟩
  have he := kp_we KD ID OT WS n k c c' W (k : Int)
  rw [show (!decide ((k : Int) < Int.ofNat k)) = true by simp] at he
  have g3 := (HEO_head (B := 2) (hE_kp ok_told0 0 0 0 99 [2, 0] [] [] 8) mixedM rfl he rfl)
  have g4 := Goes.hintK (P := Try.prog) (B := 2) (todo := hd Try.f4 1) (tm := kqT n k c c' 0) (m := ⟨[opB KD ID OT, woB WS] ++ kB true true W ++ [boB 0 0 0 0 0 0 nilS nilS 0 0], 8⟩) 8 9 (Nat.le_refl _) (by omega)
  have g5 := Goes.hintK (P := Try.prog) (B := 2) (todo := hd Try.f4 1) (tm := kqT n k c c' 0) (m := ⟨(8, some ⟨false, false, .cells []⟩) :: ([opB KD ID OT, woB WS] ++ kB true true W ++ [boB 0 0 0 0 0 0 nilS nilS 0 0]), 9⟩) 9 10 (Nat.le_refl _) (by omega)
  have g6 : Goes Try.prog 2 ⟨hd Try.f4 0, kT n k c c' (vi (k : Int)) .unk .unk, ⟨[opB KD ID OT, woB WS] ++ kB true true W, 7⟩⟩ ⟨hd Try.f4 1, kqT n k c c' 0, ⟨[opB KD ID OT, woB WS] ++ kB true true W ++ [boB 0 0 0 0 0 0 nilS nilS 0 0], 8⟩⟩ :=
    g3.trans ((Goes.ren (P := Try.prog) (σ := [(0, 0), (1, 1), (2, 2), (3, 3), (4, 4), (5, 5), (6, 6), (7, 7)]) (nx := 8) (B := 2) rfl).trans (Goes.unk 7))
  exact fin_ KD ID OT WS n k c c' (σ := [(0, 0), (1, 1), (2, 2), (3, 3), (4, 4), (5, 5), (6, 6), (7, 7), (8, 8), (9, 9)]) (g6.trans (g4.trans g5)) rfl
    (h0 := 0) (t0 := 0) (n0 := 0) (h1 := 0) (t1 := 0) (n1 := 0) (v0 := nilS) (v1 := nilS) (b8 := ⟨false, false, .cells []⟩) (b9 := ⟨false, false, .cells []⟩) (by kernel_rfl) rfl rfl rfl rfl rfl rfl (low_nil 10 8 (by omega)) (low_nil 10 9 (by omega)) (low_none _) (low_none _)
end
end Go.Proofs.Ytmjpikkloofakaa

namespace Go.Proofs.Ytmjpikkloofakaa
open Go Go.RowKit Go.Shelf
set_option maxRecDepth 100000
set_option maxHeartbeats 4000000
theorem qN {a : Nat} (h : 1 ≤ a) (h' : a ≤ 12) : IntKind.i64.wrap (IntKind.i64.wrap ((4 : Int) * IntKind.i64.wrap ((a : Int) - 1)) + 2) = ((4 * (a - 1) + 2 : Nat) : Int) := by
  rw [wrapIm (n := (a : Int) - 1) (by omega) (by omega), wrapIm (n := (4 : Int) * ((a : Int) - 1)) (by omega) (by omega), wrapIm (by omega) (by omega)]; omega
theorem qP {a : Nat} (h : 1 ≤ a) (h' : a ≤ 12) : IntKind.i64.wrap ((4 : Int) * IntKind.i64.wrap ((a : Int) - 1)) = ((4 * (a - 1) : Nat) : Int) := by
  rw [wrapIm (n := (a : Int) - 1) (by omega) (by omega), wrapIm (by omega) (by omega)]; omega
/-- The same under other names. -/
theorem Goes.rto {P : Program} {B nx : Nat} {s0 s s' : St} (σ : List (Nat × Nat)) (hg : Goes P B s0 s) (hσ : renOk B nx σ = true) (e : renSt σ nx s = s') : Goes P B s0 s' := by
  subst e
  exact hg.trans (Goes.ren hσ)
section
variable (KD ID : List Int) (OT : List Bool) (WS : List Int) (n k : Nat) (c c' : Option Nat)
variable {W ws : List Int} {L0 L1 : List Nat} {r w : Int}
abbrev kzS (T : List Item) (ws : List Int) (tm : List AV) (h0 t0 n0 h1 t1 n1 r w : Int) : St := ⟨T, tm, ⟨kzM WS ws ws h0 t0 n0 h1 t1 n1 r w, 11⟩⟩
abbrev kzV (T : List Item) (ws : List Int) (tm : List AV) (os : List Int) (h0 t0 n0 h1 t1 n1 r w : Int) : St := ⟨T, tm, ⟨kzM WS ws ws h0 t0 n0 h1 t1 n1 r w ++ [liB 11 false false os], 12⟩⟩
variable {h0 t0 n0 h1 t1 n1 : Int}
/-- The words are as they were. -/
theorem see_all (hk : k ≤ 24) (hw : WS.length = k) (hp : Put WS W k) (ho : Odd W ws) : ∀ (d i : Nat), i + d = k →
    Goes Try.prog 2 (kzS WS (hd Try.f4 2) ws (kzT k c' (i : Int)) h0 t0 n0 h1 t1 n1 r w) (kzS WS (hd Try.f4 2) ws (kzT k c' (k : Int)) h0 t0 n0 h1 t1 n1 r w)
  | 0, i, e => by
    have e : i = k := by omega
    subst e
    exact Goes.refl
  | d + 1, i, e => by
    have hq := pos_le (i := i) (by omega)
    have hl : ws.length = 48 := ho.1.trans hp.1
    have o1 : decide ((i : Int) < (k : Int)) = true := decide_eq_true (by omega)
    have o2 : decide (i < k) = true := decide_eq_true (by omega)
    have o3 : decide (i + 0 < WS.length) = true := decide_eq_true (by omega)
    have o4 : decide (pos i < 48) = true := decide_eq_true hq
    have o5 : decide (pos i + 0 < ws.length) = true := decide_eq_true (by rw [hl]; exact hq)
    have o6 : (ws.getD (pos i + 0) 0 != WS.getD (i + 0) 0) = false := by
      rw [Nat.add_zero, Nat.add_zero, ho.2 _ (pos_odd i), hp.2 i (by omega)]; exact bne_self_eq_false _
    have he := kz_w WS k c' ws ws (i : Int) h0 t0 n0 h1 t1 n1 r w
    simp only [Int.toNat_natCast, pos_eq (i := i) (by omega), zJ, Int.ofNat_eq_natCast, upM (show i ≤ 4294967296 by omega)] at he
    rw [conj_tm (by simp only [List.all_cons, List.all_nil, _root_.id, o1, o2, o3, o4, o5, o6, a4, Bool.not_false, Bool.and_true])] at he
    exact (Goes.rto (B := 2) (nx := 11) [(1, 1), (2, 2), (3, 3), (4, 4), (5, 5), (6, 6), (7, 7), (10, 10)] (HEO_head (hE_kc ok_nil ok_told0 [] 8) mixedM rfl he rfl) rfl (by kernel_rfl)).trans (see_all hk hw hp ho d (i + 1) (by omega))
/-- The links lead both ways. -/
theorem link_all (hl : ws.length = 48) (hi : Ids L0) (hc : Chn (wN ws) (wP ws) L0) (hlen : L0.length ≤ 12) : ∀ (d i : Nat), i + d + 1 = L0.length →
    Gives_ Try.prog Try.f4 2 (kzV WS (hd Try.f4 3) ws (kzU k c' (.sl true 11 1 0 1 L0.length none) (i : Int)) (mI L0) h0 t0 (nI L0) h1 t1 n1 r w) (vb true) ⟨[], 99⟩
  | 0, i, e => by
    have he := kz_xe WS k c' ws ws (i : Int) h0 t0 (nI L0) h1 t1 n1 r w (mI L0) L0.length
    rw [upM (show i ≤ 4294967296 by omega), conj_tm (by simp only [List.all_cons, List.all_nil, _root_.id, Bool.and_true, Int.ofNat_eq_natCast, Bool.not_eq_true', decide_eq_false_iff_not]; omega), show (Int.ofNat L0.length == nI L0) = true from beq_self_eq_true _] at he
    exact HEO_ret (hE_kc ok_nil ok_told0 [] 8) mixedM rfl he rfl
  | d + 1, i, e => by
    have hm0 := getD_mem (L := L0) (i := i) (by omega)
    have hm1 := getD_mem (L := L0) (i := i + 1) (by omega)
    obtain ⟨x1, x2⟩ := hi _ hm0
    obtain ⟨y1, y2⟩ := hi _ hm1
    have c1 := (hc i (by omega)).1
    have c2 := (hc (i + 1) (by omega)).2
    rw [if_neg (Nat.succ_ne_zero i), show i + 1 - 1 = i from rfl] at c2
    unfold wN at c1
    unfold wP at c2
    have he := kz_x WS k c' ws ws (i : Int) h0 t0 (nI L0) h1 t1 n1 r w (mI L0) L0.length
    have g0 : (mI L0).getD i 0 = ((L0.getD i 0 : Nat) : Int) := mI_get L0 i
    have g1 : (mI L0).getD (i + 1) 0 = ((L0.getD (i + 1) 0 : Nat) : Int) := mI_get L0 (i + 1)
    simp only [upM (show i ≤ 4294967296 by omega), Int.toNat_natCast, zJ, g0, g1, qN x1 x2, qP y1 y2, Int.ofNat_eq_natCast, wrapU x2, wrapU y2, upM (show i + 1 ≤ 4294967296 by omega), Nat.add_zero, c1, c2] at he
    rw [conj_tm (by
      simp only [List.all_cons, List.all_nil, _root_.id, bne_self_eq_false, cond_false, Bool.not_false, Bool.not_true, Bool.true_or, Bool.false_or, Bool.and_true, Bool.and_eq_true, decide_eq_true_eq, mI_len, hl]
      omega)] at he
    have g := HEO_head (B := 2) (hE_kc ok_nil ok_told0 [] 8) mixedM rfl he rfl
    have g2 : Goes Try.prog 2 (kzV WS (hd Try.f4 3) ws (kzU k c' (.sl true 11 1 0 1 L0.length none) (i : Int)) (mI L0) h0 t0 (nI L0) h1 t1 n1 r w) (kzV WS (hd Try.f4 3) ws (kzU k c' (.sl true 11 1 0 1 L0.length none) ((i + 1 : Nat) : Int)) (mI L0) h0 t0 (nI L0) h1 t1 n1 r w) := Goes.rto (B := 2) (nx := 12) [(1, 1), (2, 2), (3, 3), (4, 4), (5, 5), (6, 6), (7, 7), (10, 10), (11, 11)] g rfl (by kernel_rfl)
    refine g2.gives ?_
    exact link_all hl hi hc hlen d (i + 1) (by omega)
theorem kp_nil (hl : ws.length = 48) : Gives_ Try.prog Try.f4 2 (kzS WS (hd Try.f4 2) ws (kzT k c' (k : Int)) 0 0 0 h1 t1 n1 r w) (vb true) ⟨[], 99⟩ := by
  have he0 := kz_w0 WS k c' ws ws (k : Int) 0 0 0 h1 t1 n1 r w
  rw [conj_tm (by simp)] at he0
  have he1 := kz_x0 WS k c' ws ws 0 0 0 0 h1 t1 n1 r w [] 0
  rw [conj_tm (by decide)] at he1
  exact (Goes.rto (B := 2) (nx := 11) [(1, 1), (2, 2), (3, 3), (4, 4), (5, 5), (6, 6), (7, 7), (10, 10)] ((HEO_head (hE_kc ok_nil ok_told0 [] 8) mixedM rfl he0 rfl).trans (Goes.unk 12)) rfl (by kernel_rfl)).gives (HEO_ret (B := 2) (hE_kc ok_nil ok_told0 [] 8) mixedM rfl he1 rfl)
theorem kp_cons {x : Nat} {l : List Nat} (hi : KInv W ws (x :: l) L1) : Gives_ Try.prog Try.f4 2 (kzS WS (hd Try.f4 2) ws (kzT k c' (k : Int)) (hI (x :: l)) (tI (x :: l)) (nI (x :: l)) (hI L1) (tI L1) (nI L1) r w) (vb true) ⟨[], 99⟩ := by
  have hl := hi.len
  have hle := hi.le
  simp only [List.length_cons] at hle
  have hos : mI (x :: l) = idsI x l 20 := by
    show List.map Int.ofNat (x :: l) = List.take (Int.toNat 20) (List.map Int.ofNat (x :: l))
    rw [List.take_of_length_le]
    rw [List.length_map, List.length_cons]
    have : Int.toNat 20 = 20 := rfl
    omega
  have ht := ok_tl (q := (x :: l).length) (h := hI (x :: l)) (L := nI (x :: l)) hos (mI_len _).symm hi.walk (by omega) (by omega) rfl rfl
  have h1 := kz_w1 WS k c' ws ws (k : Int) (hI (x :: l)) (tI (x :: l)) (nI (x :: l)) (hI L1) (tI L1) (nI L1) r w (mI (x :: l)) (x :: l).length
  rw [conj_tm (by simp)] at h1
  have g4 := HEO_head (B := 2) (hE_kc ok_nil ht [] 8) mixedM rfl h1 rfl
  have g5 : Goes Try.prog 2 (kzS WS (hd Try.f4 2) ws (kzT k c' (k : Int)) (hI (x :: l)) (tI (x :: l)) (nI (x :: l)) (hI L1) (tI L1) (nI L1) r w) ⟨hd Try.f4 3, kzU k c' (.sl true 11 1 0 1 (x :: l).length none) 0, ⟨kzM WS ws ws (hI (x :: l)) (tI (x :: l)) (nI (x :: l)) (hI L1) (tI L1) (nI L1) r w ++ [(11, some ⟨true, true, .col (.ints .i64 (mI (x :: l)))⟩)], 12⟩⟩ :=
    Goes.rto (B := 2) (nx := 12) [(1, 1), (2, 2), (3, 3), (4, 4), (5, 5), (6, 6), (7, 7), (10, 10), (11, 11)] (g4.trans (Goes.unk 12)) rfl (by kernel_rfl)
  refine (g5.trans (Goes.lower (bl' := kzM WS ws ws (hI (x :: l)) (tI (x :: l)) (nI (x :: l)) (hI L1) (tI L1) (nI L1) r w ++ [liB 11 false false (mI (x :: l))]) (by
    iterate 8 refine .keep ?_
    exact .low .ro .nil))).gives ?_
  exact link_all WS k c' hl hi.ids0 hi.c0 (by simp only [List.length_cons]; omega) l.length 0 (by simp)
theorem kp_tail (hi : KInv W ws L0 L1) : Gives_ Try.prog Try.f4 2 (kzS WS (hd Try.f4 2) ws (kzT k c' (k : Int)) (hI L0) (tI L0) (nI L0) (hI L1) (tI L1) (nI L1) r w) (vb true) ⟨[], 99⟩ := by
  cases L0 with
  | nil => exact kp_nil WS k c' hi.len
  | cons x l => exact kp_cons WS k c' hi
theorem kp_end (hk : k ≤ 24) (hw : WS.length = k) (hp : Put WS W k) (hi : KInv W ws L0 L1) :
    Gives_ Try.prog Try.f4 2 (cSt KD ID OT WS n k c c' (hd Try.f4 1) ws n r w L0 L1) (vb true) ⟨[], 99⟩ := by
  have hl := hi.len
  have hle := hi.le
  have he := kz_l KD ID OT WS n k c c' ws (n : Int) (hI L0) (tI L0) (nI L0) (hI L1) (tI L1) (nI L1) r w L0.length L1.length (mI L0) (mI L1)
  rw [show List.take 48 ws = ws from List.take_of_length_le (by omega), conj_tm (by simp only [List.all_cons, List.all_nil, _root_.id, Bool.and_true, Int.ofNat_eq_natCast, Bool.and_eq_true, Nat.ble_eq, Bool.not_eq_true', decide_eq_false_iff_not]; omega)] at he
  have g1 := HEO_head (B := 2) (hE_kc ok_nil ok_told0 [] 8) mixedM rfl he rfl
  have g2 : Goes Try.prog 2 (cSt KD ID OT WS n k c c' (hd Try.f4 1) ws n r w L0 L1) ⟨hd Try.f4 2, kzT k c' 0, ⟨[woB WS] ++ kB true true ws ++ [boB (hI L0) (tI L0) (nI L0) (hI L1) (tI L1) (nI L1) .unk .unk r w, (10, some ⟨true, true, .col (.ints .u64 ws)⟩)], 11⟩⟩ :=
    Goes.rto (B := 2) (nx := 11) [(1, 1), (2, 2), (3, 3), (4, 4), (5, 5), (6, 6), (7, 7), (10, 11)] g1 rfl (by kernel_rfl)
  have g3 : Goes Try.prog 2 ⟨hd Try.f4 2, kzT k c' 0, ⟨[woB WS] ++ kB true true ws ++ [boB (hI L0) (tI L0) (nI L0) (hI L1) (tI L1) (nI L1) .unk .unk r w, (10, some ⟨true, true, .col (.ints .u64 ws)⟩)], 11⟩⟩ (kzS WS (hd Try.f4 2) ws (kzT k c' 0) (hI L0) (tI L0) (nI L0) (hI L1) (tI L1) (nI L1) r w) :=
    Goes.lower (by
      iterate 7 refine .keep ?_
      exact .low .ro .nil)
  refine (g2.trans (g3.trans (see_all WS k c' hk hw hp hi.odd k 0 (by omega)))).gives ?_
  exact kp_tail WS k c' hi
end
end Go.Proofs.Ytmjpikkloofakaa

namespace Go.Proofs.Ytmjpikkloofakaa
open Go Go.ChangeShapes Go.WideShapes Go.ChangeAt Go.RowKit Go.Deep
/-- The kind of a column. -/
inductive CK where
  | i (k : IntKind)
  | b
def CK.under : CK → TypeDesc → Bool
  | .i k, .int k' => decide (k = k')
  | .b, .bool => true
  | _, _ => false
def CK.val : CK → Value → Prop
  | .i k, v => ∃ z, v = .int k z ∧ (Lit.int k z).wf = true
  | .b, v => ∃ z, v = .bool z
def CK.fits : CK → Nat → Col → Prop
  | .i k, n, cl => ∃ zs, cl = .ints k zs ∧ zs.length = n ∧ ∀ j, j < n → (Lit.int k (zs.getD j 0)).wf = true
  | .b, n, cl => ∃ zs, cl = .bools zs ∧ zs.length = n
def Fits (n : Nat) : List CK → List Col → Prop
  | [], cs => cs = []
  | k :: ks, cs => ∃ cl r, cs = cl :: r ∧ k.fits n cl ∧ Fits n ks r
theorem col_of (k : CK) (n : Nat) (cell : Nat → Option Value) (h : ∀ j, j < n → ∃ v, cell j = some v ∧ k.val v) : ∃ cl : Col, k.fits n cl ∧ (n = 0 → ∀ r, (cl.at r).2 = false) ∧ ∀ r v, cl.at r = (.val v, true) → cell r = some v := by
  cases k with
  | i k =>
    obtain ⟨zs, hl, hz⟩ := lists_of (0 : Int) (p := fun j z => cell j = some (.int k z) ∧ (Lit.int k z).wf = true) n fun j hj => by
      obtain ⟨v, h1, z, rfl, h2⟩ := h j hj
      exact ⟨z, h1, h2⟩
    refine ⟨.ints k zs, ⟨zs, rfl, hl, fun j hj => (hz j hj).2⟩, fun h0 r => by simp [Col.at]; omega, fun r v hv => ?_⟩
    simp only [Col.at, Prod.mk.injEq, AV.val.injEq, decide_eq_true_eq] at hv
    obtain ⟨rfl, hr⟩ := hv
    exact (hz r (by omega)).1
  | b =>
    obtain ⟨zs, hl, hz⟩ := lists_of false (p := fun j z => cell j = some (.bool z)) n fun j hj => by
      obtain ⟨v, h1, z, rfl⟩ := h j hj
      exact ⟨z, h1⟩
    refine ⟨.bools zs, ⟨zs, rfl, hl⟩, fun h0 r => by simp [Col.at]; omega, fun r v hv => ?_⟩
    simp only [Col.at, Prod.mk.injEq, AV.val.injEq, decide_eq_true_eq] at hv
    obtain ⟨rfl, hr⟩ := hv
    exact hz r (by omega)
theorem cols_of (n : Nat) : ∀ (ks : List CK) (cell : Nat → Nat → Option Value), (∀ c k, ks[c]? = some k → ∀ j, j < n → ∃ v, cell j c = some v ∧ k.val v) →
    ∃ cs : List Col, cs.length = ks.length ∧ Fits n ks cs ∧ (n = 0 → ∀ (c : Nat) (cl : Col) (r : Nat), cs[c]? = some cl → (cl.at r).2 = false) ∧ ∀ (c : Nat) (cl : Col) (r : Nat) (v : Value), cs[c]? = some cl → cl.at r = (.val v, true) → cell r c = some v
  | [], _, _ => ⟨[], rfl, rfl, fun _ c cl r h => by simp at h, fun c cl r v h => by simp at h⟩
  | k :: ks, cell, h => by
    obtain ⟨cl, h1, h2, h3⟩ := col_of k n (fun j => cell j 0) (fun j hj => h 0 k rfl j hj)
    obtain ⟨cs, g1, g2, g3, g4⟩ := cols_of n ks (fun j c => cell j (c + 1)) (fun c k hk j hj => h (c + 1) k (by simpa using hk) j hj)
    refine ⟨cl :: cs, by simp [g1], ⟨cl, cs, rfl, h1, g2⟩, fun h0 c d r hc => ?_, fun c d r v hc hv => ?_⟩
    · cases c with
      | zero => simp at hc; subst hc; exact h2 h0 r
      | succ c => exact g3 h0 c d r (by simpa using hc)
    · cases c with
      | zero => simp at hc; subst hc; exact h3 r v hv
      | succ c => exact g4 c d r v (by simpa using hc) hv
def fieldsAre (P : Program) : List Field → List CK → Bool
  | [], [] => true
  | f :: fs, k :: ks => (match P.underlying f.type with
    | some u => k.under u
    | none => false) && fieldsAre P fs ks
  | _, _ => false
theorem fields_at {P : Program} : ∀ {fs : List Field} {ks : List CK}, fieldsAre P fs ks = true → fs.length = ks.length ∧ ∀ (c : Nat) k, ks[c]? = some k → ∃ f u, fs[c]? = some f ∧ P.underlying f.type = some u ∧ k.under u = true
  | [], [], _ => ⟨rfl, fun c k h => by simp at h⟩
  | [], _ :: _, h => by simp [fieldsAre] at h
  | _ :: _, [], h => by simp [fieldsAre] at h
  | f :: fs, k :: ks, h => by
    simp only [fieldsAre, Bool.and_eq_true] at h
    obtain ⟨h1, h2⟩ := h
    obtain ⟨g1, g2⟩ := fields_at h2
    refine ⟨by simp [g1], fun c k' hk => ?_⟩
    cases c with
    | zero =>
      simp at hk
      subst hk
      cases hu : P.underlying f.type with
      | none => rw [hu] at h1; cases h1
      | some u => rw [hu] at h1; exact ⟨f, u, rfl, hu, h1⟩
    | succ c =>
      obtain ⟨f', u, hf, hu, hk'⟩ := g2 c k' (by simpa using hk)
      exact ⟨f', u, by simpa using hf, hu, hk'⟩
set_option maxRecDepth 100000 in
/-- A slice of flat structs came in. -/
theorem open_rows {H : Type} {enc : TypeId × Value → H} {w : World} {base : Nat} {held : Bool} {r : Reach} {b0 : Nat} {v : Value} {d : DataW H} {ps : List MemPlace} {t e : TypeId} {fs : Array Field} (ks : List CK)
    (ht : Try.prog.underlying t = some (.slice e)) (he : Try.prog.underlying e = some (.struct fs)) (hone : oneCellFields Try.prog fs = true) (hC : Try.prog.cellsOf e = fs.size) (hpos : 0 < fs.size) (hks : fieldsAre Try.prog fs.toList ks = true)
    (hval : Value.okWide Try.prog w r b0 t v) (h : DataW.Trod enc Try.prog w base (fun _ => true) held t v d ps) :
    ∃ (A : Option Addr) (n c : Nat) (cs : List Col) (i : LI), v = .slice A n c ∧ n ≤ c ∧ c ≤ 9223372036854775807 ∧ Fits n ks cs ∧ InB w A n (.rows cs) i := by
  obtain ⟨A, n, c, rfl, h1, h2, h3⟩ := open_structs ht he hone hC hpos hval h
  obtain ⟨hl, hat⟩ := fields_at hks
  have hsz : fs.size = ks.length := by simpa using hl
  have hrow : ∀ (b o : Nat), (∀ i, i < n → ∀ (j : Nat) (f : Field), fs[j]? = some f → ∃ u, w.cell? ⟨b, o + (i * fs.size + j), none⟩ = some u ∧ ∃ m y, DataW.trod enc Try.prog w base (fun _ => true) held m f.type [u] = some y) →
      ∀ c k, ks[c]? = some k → ∀ j, j < n → ∃ v, w.cell? ⟨b, o + (j * ks.length + c), none⟩ = some v ∧ k.val v := fun b o hi c k hk j hj => by
    obtain ⟨f, u, hf, hu, hku⟩ := hat c k hk
    obtain ⟨x, hx, hx2⟩ := hi j hj c f (by simpa using hf)
    rw [hsz] at hx
    refine ⟨x, hx, ?_⟩
    cases k with
    | i k =>
      cases u <;> simp only [CK.under] at hku <;> try cases hku
      rename_i k'
      have := of_decide_eq_true hku
      subst this
      exact field_int hu hx2
    | b =>
      cases u <;> simp only [CK.under] at hku <;> try cases hku
      exact field_bool hu hx2
  have hc : c ≤ 9223372036854775807 := by unfold maxLen at h2; omega
  by_cases hn : 0 < n
  · obtain ⟨b, o, e, hb, hi⟩ := h3 hn
    obtain ⟨cs, g1, g2, g3, g4⟩ := cols_of n ks (fun j c => w.cell? ⟨b, o + (j * ks.length + c), none⟩) (hrow b o hi)
    obtain ⟨i, hin⟩ := in_rows (w := w) (A := A) (n := n) (cs := cs) (fun h => by omega) (fun _ => ⟨b, o, e, hb, fun c cl r v hc hv => by
      have := g4 c cl r v hc hv
      rw [← g1] at this
      exact this⟩)
    exact ⟨A, n, c, cs, i, rfl, h1, hc, g2, hin⟩
  · have h0 : n = 0 := by omega
    obtain ⟨cs, g1, g2, g3, _⟩ := cols_of n ks (fun _ _ => none) (fun c k _ j hj => by omega)
    obtain ⟨i, hin⟩ := in_rows (w := w) (A := A) (n := n) (cs := cs) (fun h => g3 h) (fun h => absurd h hn)
    exact ⟨A, n, c, cs, i, rfl, h1, hc, g2, hin⟩
end Go.Proofs.Ytmjpikkloofakaa
