/-
  The statement CensusMerges of layer 23 (census), proved.
-/
import Derived.Test.YtbjealobiblabaaCeMe
namespace Go.Proofs.Ytbjealobiblabaa
open Go Go.ChangeShapes Go.WideShapes Go.ChangeAt Go.RowKit Go.Deep
set_option maxRecDepth 100000
abbrev L_mm : List (FuncId × Spec) := (1000004, e_hint) :: (10, e_aw23) :: (11, e_ofZ) :: (27, e_merge) :: (16, e_rrowsZ) :: (18, e_rows) :: (17, e_sameC) :: (14, e_Total) :: (22, e_at) :: (28, e_add) :: []
theorem hE_mm : ESound Try.prog (envOf L_mm) := env_cons ok_hint (env_cons ok_aw23 (env_cons ok_ofZ (env_cons ok_merge (env_cons ok_rrowsZ (env_cons ok_rows (env_cons ok_sameC (env_cons ok_Total (env_cons ok_at (env_cons ok_add env_nil)))))))))
abbrev ofQ (n : Nat) (P R S A : List Int) (G : List Bool) : List Bool := [Nat.ble n 4096, Nat.ble n P.length, Nat.ble n R.length, Nat.ble n S.length, Nat.ble n A.length, Nat.ble n G.length]
abbrev rowQ (E : List KV) : List Bool := [decide (KD E), Nat.ble E.length 4096]
abbrev sameQ (E L : List KV) : List Bool := [Nat.ble E.length 4096, decide (E.length = L.length), decide ((sortK E).map kA = L.map kA), decide ((sortK E).map kB = L.map kB), decide ((sortK E).map kC = L.map kC), decide ((sortK E).map kD = L.map kD), decide ((sortK E).map kE = L.map kE), Nat.ble E.length ((sortK E).map kA).length, Nat.ble E.length ((sortK E).map kB).length, Nat.ble E.length ((sortK E).map kC).length, Nat.ble E.length ((sortK E).map kD).length, Nat.ble E.length ((sortK E).map kE).length]
abbrev sameG (E L : List KV) : List Bool := [false || Nat.ble E.length 4096, false || decide (E.length = L.length), false || decide ((sortK E).map kA = L.map kA), false || decide ((sortK E).map kB = L.map kB), false || decide ((sortK E).map kC = L.map kC), false || decide ((sortK E).map kD = L.map kD), false || decide ((sortK E).map kE = L.map kE), false || Nat.ble E.length ((sortK E).map kA).length, false || Nat.ble E.length ((sortK E).map kB).length, false || Nat.ble E.length ((sortK E).map kC).length, false || Nat.ble E.length ((sortK E).map kD).length, false || Nat.ble E.length ((sortK E).map kE).length]
abbrev nestQ (n : Nat) (P R S A : List Int) (G : List Bool) : Bool := bif Nat.ble n P.length then (bif Nat.ble n R.length then (bif Nat.ble n S.length then (bif Nat.ble n A.length then (bif Nat.ble n G.length then true else false) else false) else false) else false) else false
/-- All that is asked, once the two are there. -/
abbrev restQ (EA EB EC LW LA LB : List KV) (N na nb : Nat) (P R S A P' R' S' A' PP RR SS AA : List Int) (G G' GG : List Bool) (z : Bool) : List Bool :=
  (bif z then [] else ofQ N PP RR SS AA GG) ++ (rowQ (mgF (mgF [] (sortK EA)) (sortK EB)) ++ (sameQ (mgF (mgF [] (sortK EA)) (sortK EB)) LW ++ ((bif z then [] else ofQ N PP RR SS AA GG) ++ (rowQ EC ++ (sameG EC LW ++ (rowQ EA ++ (ofQ na P R S A G ++ (sameG EA LA ++ (rowQ EB ++ (ofQ nb P' R' S' A' G' ++ (sameG EB LB ++ (rowQ EA ++ (rowQ (mgF [] (sortK EA)) ++ (ofQ na P R S A G ++ sameG (mgF [] (sortK EA)) LA))))))))))))))
theorem mm_big (P R S A P' R' S' A' : List Int) (G G' : List Bool) (nn nn' : Bool) (c c' : Option Nat) (n n' : Nat) : FO_ Try.prog L_mm Try.f5 [] [] 2000 [2, 1] [.sl nn 0 5 0 1 n c, .sl nn' 1 5 0 1 n' c'] ⟨[(0, some ⟨false, false, hdC P R S A G⟩), (1, some ⟨false, false, hdC P' R' S' A' G'⟩)], 2⟩ = some (.ret (vb true) ⟨[], 2000⟩ (conj [bif decide (30 < Int.ofNat n) then true else decide (30 < Int.ofNat n')])) := by kernel_rfl
theorem mm_pp (P R S A P' R' S' A' : List Int) (G G' : List Bool) (nn nn' : Bool) (c c' : Option Nat) (n : Nat) (n' : Nat) : FO_ Try.prog L_mm Try.f5 [] [] 2000 [2, 0] [.sl nn 0 5 0 1 (n + 1) c, .sl nn' 1 5 0 1 (n' + 1) c'] ⟨[(0, some ⟨false, false, hdC P R S A G⟩), (1, some ⟨false, false, hdC P' R' S' A' G'⟩)], 2⟩ =
    some (.ret (vb true) ⟨[], 2000⟩ (conj ([!(bif decide (30 < Int.ofNat (n + 1)) then true else decide (30 < Int.ofNat (n' + 1)))] ++ (ofQ (n + 1) P R S A G ++ (ofQ (n' + 1) P' R' S' A' G' ++ (rowQ (ofF P R S A 0 (n + 1) []) ++ (rowQ (ofF P' R' S' A' 0 (n' + 1) []) ++ ([decide ((n' + 1) * 40 ≤ 140737488355328), nestQ (0 + (n' + 1)) P' R' S' A' G', nestQ (n' + 1) (List.take (n' + 1) (List.drop 0 P')) (List.take (n' + 1) (List.drop 0 R')) (List.take (n' + 1) (List.drop 0 S')) (List.take (n' + 1) (List.drop 0 A')) (List.take (n' + 1) (List.drop 0 G')), decide ((n' + 1 + (n + 1)) * 40 ≤ 140737488355328), nestQ (0 + (n + 1)) P R S A G] ++ restQ (ofF P R S A 0 (n + 1) []) (ofF P' R' S' A' 0 (n' + 1) []) (ofF (List.take (n' + 1) (List.drop 0 (List.take (n' + 1) (List.drop 0 P'))) ++ List.take (n + 1) (List.drop 0 P)) (List.take (n' + 1) (List.drop 0 (List.take (n' + 1) (List.drop 0 R'))) ++ List.take (n + 1) (List.drop 0 R)) (List.take (n' + 1) (List.drop 0 (List.take (n' + 1) (List.drop 0 S'))) ++ List.take (n + 1) (List.drop 0 S)) (List.take (n' + 1) (List.drop 0 (List.take (n' + 1) (List.drop 0 A'))) ++ List.take (n + 1) (List.drop 0 A)) 0 (n' + 1 + (n + 1)) []) (RF (hdI (List.take (n' + 1) (List.drop 0 (List.take (n' + 1) (List.drop 0 P'))) ++ List.take (n + 1) (List.drop 0 P)) (List.take (n' + 1) (List.drop 0 (List.take (n' + 1) (List.drop 0 R'))) ++ List.take (n + 1) (List.drop 0 R)) (List.take (n' + 1) (List.drop 0 (List.take (n' + 1) (List.drop 0 S'))) ++ List.take (n + 1) (List.drop 0 S)) (List.take (n' + 1) (List.drop 0 (List.take (n' + 1) (List.drop 0 A'))) ++ List.take (n + 1) (List.drop 0 A)) 0 (n' + 1 + (n + 1)))) (RF (hdI P R S A 0 (n + 1))) (RF (hdI P' R' S' A' 0 (n' + 1))) (n' + 1 + (n + 1)) (n + 1) (n' + 1) P R S A P' R' S' A' (List.take (n' + 1) (List.drop 0 (List.take (n' + 1) (List.drop 0 P'))) ++ List.take (n + 1) (List.drop 0 P)) (List.take (n' + 1) (List.drop 0 (List.take (n' + 1) (List.drop 0 R'))) ++ List.take (n + 1) (List.drop 0 R)) (List.take (n' + 1) (List.drop 0 (List.take (n' + 1) (List.drop 0 S'))) ++ List.take (n + 1) (List.drop 0 S)) (List.take (n' + 1) (List.drop 0 (List.take (n' + 1) (List.drop 0 A'))) ++ List.take (n + 1) (List.drop 0 A)) G G' (List.take (n' + 1) (List.drop 0 (List.take (n' + 1) (List.drop 0 G'))) ++ List.take (n + 1) (List.drop 0 G)) false)))))))) := by kernel_rfl
theorem mm_pz (P R S A P' R' S' A' : List Int) (G G' : List Bool) (nn nn' : Bool) (c c' : Option Nat) (n : Nat) : FO_ Try.prog L_mm Try.f5 [] [] 2000 [2, 0] [.sl nn 0 5 0 1 (n + 1) c, .sl nn' 1 5 0 1 0 c'] ⟨[(0, some ⟨false, false, hdC P R S A G⟩), (1, some ⟨false, false, hdC P' R' S' A' G'⟩)], 2⟩ =
    some (.ret (vb true) ⟨[], 2000⟩ (conj ([!(bif decide (30 < Int.ofNat (n + 1)) then true else decide (30 < Int.ofNat 0))] ++ (ofQ (n + 1) P R S A G ++ (ofQ 0 P' R' S' A' G' ++ (rowQ (ofF P R S A 0 (n + 1) []) ++ (rowQ (ofF P' R' S' A' 0 0 []) ++ ([decide ((n + 1) * 40 ≤ 140737488355328), nestQ (0 + (n + 1)) P R S A G] ++ restQ (ofF P R S A 0 (n + 1) []) (ofF P' R' S' A' 0 0 []) (ofF (List.take (n + 1) (List.drop 0 P)) (List.take (n + 1) (List.drop 0 R)) (List.take (n + 1) (List.drop 0 S)) (List.take (n + 1) (List.drop 0 A)) 0 (n + 1) []) (RF (hdI (List.take (n + 1) (List.drop 0 P)) (List.take (n + 1) (List.drop 0 R)) (List.take (n + 1) (List.drop 0 S)) (List.take (n + 1) (List.drop 0 A)) 0 (n + 1))) (RF (hdI P R S A 0 (n + 1))) (RF (hdI P' R' S' A' 0 0)) (n + 1) (n + 1) 0 P R S A P' R' S' A' (List.take (n + 1) (List.drop 0 P)) (List.take (n + 1) (List.drop 0 R)) (List.take (n + 1) (List.drop 0 S)) (List.take (n + 1) (List.drop 0 A)) G G' (List.take (n + 1) (List.drop 0 G)) false)))))))) := by kernel_rfl
theorem mm_zp (P R S A P' R' S' A' : List Int) (G G' : List Bool) (nn nn' : Bool) (c c' : Option Nat) (n' : Nat) : FO_ Try.prog L_mm Try.f5 [] [] 2000 [2, 0] [.sl nn 0 5 0 1 0 c, .sl nn' 1 5 0 1 (n' + 1) c'] ⟨[(0, some ⟨false, false, hdC P R S A G⟩), (1, some ⟨false, false, hdC P' R' S' A' G'⟩)], 2⟩ =
    some (.ret (vb true) ⟨[], 2000⟩ (conj ([!(bif decide (30 < Int.ofNat 0) then true else decide (30 < Int.ofNat (n' + 1)))] ++ (ofQ 0 P R S A G ++ (ofQ (n' + 1) P' R' S' A' G' ++ (rowQ (ofF P R S A 0 0 []) ++ (rowQ (ofF P' R' S' A' 0 (n' + 1) []) ++ ([decide ((n' + 1) * 40 ≤ 140737488355328), nestQ (0 + (n' + 1)) P' R' S' A' G'] ++ restQ (ofF P R S A 0 0 []) (ofF P' R' S' A' 0 (n' + 1) []) (ofF (List.take (n' + 1) (List.drop 0 P')) (List.take (n' + 1) (List.drop 0 R')) (List.take (n' + 1) (List.drop 0 S')) (List.take (n' + 1) (List.drop 0 A')) 0 (n' + 1) []) (RF (hdI (List.take (n' + 1) (List.drop 0 P')) (List.take (n' + 1) (List.drop 0 R')) (List.take (n' + 1) (List.drop 0 S')) (List.take (n' + 1) (List.drop 0 A')) 0 (n' + 1))) (RF (hdI P R S A 0 0)) (RF (hdI P' R' S' A' 0 (n' + 1))) (n' + 1) 0 (n' + 1) P R S A P' R' S' A' (List.take (n' + 1) (List.drop 0 P')) (List.take (n' + 1) (List.drop 0 R')) (List.take (n' + 1) (List.drop 0 S')) (List.take (n' + 1) (List.drop 0 A')) G G' (List.take (n' + 1) (List.drop 0 G')) false)))))))) := by kernel_rfl
theorem mm_zz (P R S A P' R' S' A' : List Int) (G G' : List Bool) (nn nn' : Bool) (c c' : Option Nat) : FO_ Try.prog L_mm Try.f5 [] [] 2000 [2, 0] [.sl nn 0 5 0 1 0 c, .sl nn' 1 5 0 1 0 c'] ⟨[(0, some ⟨false, false, hdC P R S A G⟩), (1, some ⟨false, false, hdC P' R' S' A' G'⟩)], 2⟩ =
    some (.ret (vb true) ⟨[], 2000⟩ (conj ([!(bif decide (30 < Int.ofNat 0) then true else decide (30 < Int.ofNat 0))] ++ (ofQ 0 P R S A G ++ (ofQ 0 P' R' S' A' G' ++ (rowQ (ofF P R S A 0 0 []) ++ (rowQ (ofF P' R' S' A' 0 0 []) ++ ([] ++ restQ (ofF P R S A 0 0 []) (ofF P' R' S' A' 0 0 []) [] (RF []) (RF (hdI P R S A 0 0)) (RF (hdI P' R' S' A' 0 0)) 0 0 0 P R S A P' R' S' A' [] [] [] [] G G' [] true)))))))) := by kernel_rfl
-- What is asked is so
theorem RF_congr {H H' : List Hd} (h : ∀ k, cnt k H = cnt k H' ∧ wrd k H = wrd k H') : RF H = RF H' := by
  have e : rowK H = rowK H' := funext fun k => by
    unfold rowK
    rw [(h k).1, (h k).2]
  unfold RF rfS rfC rfA
  rw [e]
theorem RF_comm (H H' : List Hd) : RF (H ++ H') = RF (H' ++ H) := RF_congr fun k => by
  rw [cnt_append, cnt_append, wrd_append, wrd_append]
  exact ⟨Nat.add_comm .., Int.add_comm ..⟩
theorem holds_len {E : List KV} {H : List Hd} (h : Holds E H) : E.length ≤ 3584 ∧ E.length = (RF H).length := by
  have h1 : E.length = (RF H).length := by rw [← sort_RF h, sortK_len]
  have := rfS_len H 32 0
  unfold RF at h1
  exact ⟨by omega, h1⟩
theorem rowQ_ok {E : List KV} {H : List Hd} (h : Holds E H) : conj (rowQ E) = true := by
  have := (holds_len h).1
  unfold rowQ
  rw [decide_eq_true h.1, Nat.ble_eq_true_of_le (show E.length ≤ 4096 by omega)]
  rfl
theorem sameQ_ok {E L : List KV} {H : List Hd} (h : Holds E H) (hL : L = RF H) : conj (sameQ E L) = true ∧ conj (sameG E L) = true := by
  obtain ⟨h1, h2⟩ := holds_len h
  have hs := sort_RF h
  rw [← hL] at hs h2
  have eA : ∀ f : KV → Int, (L.map f).length = E.length := fun f => by rw [List.length_map, h2]
  unfold sameQ sameG
  rw [hs, eA, eA, eA, eA, eA, h2, Nat.ble_eq_true_of_le (show L.length ≤ 4096 by omega), Nat.ble_eq_true_of_le (Nat.le_refl L.length)]
  simp [conj]
theorem restQ_ok {EA EB EC LW LA LB : List KV} {N na nb : Nat} {P R S A P' R' S' A' PP RR SS AA : List Int} {G G' GG : List Bool} {z : Bool} {HA HB HC : List Hd} (hA : Holds EA HA) (hB : Holds EB HB) (hC : Holds EC HC) (hH : HC = HB ++ HA) (lA : LA = RF HA) (lB : LB = RF HB) (lW : LW = RF HC) (hl : HA.length + HB.length ≤ 100000)
    (qA : conj (ofQ na P R S A G) = true) (qB : conj (ofQ nb P' R' S' A' G') = true) (qC : z = true ∨ conj (ofQ N PP RR SS AA GG) = true) : conj (restQ EA EB EC LW LA LB N na nb P R S A P' R' S' A' PP RR SS AA G G' GG z) = true := by
  have hM := mg_rows holds_nil hA (by simp; omega)
  rw [List.nil_append] at hM
  have hZ := mg_rows hM hB (by omega)
  have qz : conj (bif z then [] else ofQ N PP RR SS AA GG) = true := by
    rcases qC with rfl | h
    · rfl
    · cases z
      · exact h
      · rfl
  have eW : LW = RF (HA ++ HB) := by rw [lW, hH, RF_comm]
  unfold restQ
  exact cj_app _ _ qz (cj_app _ _ (rowQ_ok hZ) (cj_app _ _ (sameQ_ok hZ eW).1 (cj_app _ _ qz (cj_app _ _ (rowQ_ok hC) (cj_app _ _ (sameQ_ok hC lW).2 (cj_app _ _ (rowQ_ok hA) (cj_app _ _ qA (cj_app _ _ (sameQ_ok hA lA).2 (cj_app _ _ (rowQ_ok hB) (cj_app _ _ qB (cj_app _ _ (sameQ_ok hB lB).2 (cj_app _ _ (rowQ_ok hA) (cj_app _ _ (rowQ_ok hM) (cj_app _ _ qA (sameQ_ok hM lA).2))))))))))))))
theorem ofQ_ok {n : Nat} {P R S A : List Int} {G : List Bool} (h0 : n ≤ 4096) (h1 : n ≤ P.length) (h2 : n ≤ R.length) (h3 : n ≤ S.length) (h4 : n ≤ A.length) (h5 : n ≤ G.length) : conj (ofQ n P R S A G) = true := by
  unfold ofQ
  rw [Nat.ble_eq_true_of_le h0, Nat.ble_eq_true_of_le h1, Nat.ble_eq_true_of_le h2, Nat.ble_eq_true_of_le h3, Nat.ble_eq_true_of_le h4, Nat.ble_eq_true_of_le h5]
  rfl
theorem nestQ_ok {n : Nat} {P R S A : List Int} {G : List Bool} (h1 : n ≤ P.length) (h2 : n ≤ R.length) (h3 : n ≤ S.length) (h4 : n ≤ A.length) (h5 : n ≤ G.length) : nestQ n P R S A G = true := by
  unfold nestQ
  rw [Nat.ble_eq_true_of_le h1, Nat.ble_eq_true_of_le h2, Nat.ble_eq_true_of_le h3, Nat.ble_eq_true_of_le h4, Nat.ble_eq_true_of_le h5]
  rfl
theorem cut_len {α : Type} {l : List α} {n : Nat} (h : n ≤ l.length) : (List.take n (List.drop 0 l)).length = n := by
  rw [List.drop_zero, List.length_take]; omega
theorem cut2_len {α : Type} {l : List α} {n : Nat} (h : n ≤ l.length) : (List.take n (List.drop 0 (List.take n (List.drop 0 l)))).length = n := cut_len (by rw [cut_len h]; exact Nat.le_refl _)
theorem cut_get {α : Type} {l : List α} {n i : Nat} {d : α} (h : i < n) : (List.take n (List.drop 0 l)).getD i d = l.getD i d := by
  rw [part_get h, Nat.zero_add]
theorem cut2_get {α : Type} {l : List α} {n i : Nat} {d : α} (h : i < n) : (List.take n (List.drop 0 (List.take n (List.drop 0 l)))).getD i d = l.getD i d := by
  rw [cut_get h, cut_get h]
theorem hdI_cut {P R S A : List Int} {n : Nat} : hdI (List.take n (List.drop 0 P)) (List.take n (List.drop 0 R)) (List.take n (List.drop 0 S)) (List.take n (List.drop 0 A)) 0 n = hdI P R S A 0 n := by
  unfold hdI
  refine List.map_congr_left fun i hi => ?_
  have hi : i < n := by have := List.mem_range'_1.1 hi; omega
  unfold hdAt
  rw [cut_get hi, cut_get hi, cut_get hi, cut_get hi]
theorem app_get1 {l l' : List Int} {m n i : Nat} (hl : m ≤ l.length) (h : i < m) : (List.take m (List.drop 0 (List.take m (List.drop 0 l))) ++ List.take n (List.drop 0 l')).getD i 0 = l.getD i 0 := by
  rw [cat_get, if_pos (by rw [cut2_len hl]; exact h), cut2_get h]
theorem app_get2 {l l' : List Int} {m n i : Nat} (hl : m ≤ l.length) (h : i < n) : (List.take m (List.drop 0 (List.take m (List.drop 0 l))) ++ List.take n (List.drop 0 l')).getD (m + i) 0 = l'.getD i 0 := by
  rw [cat_get, if_neg (by rw [cut2_len hl]; omega), cut2_len hl, Nat.add_sub_cancel_left, cut_get h]
theorem hdI_app {P R S A P' R' S' A' : List Int} {m n : Nat} (h1 : m ≤ P'.length) (h2 : m ≤ R'.length) (h3 : m ≤ S'.length) (h4 : m ≤ A'.length) :
    hdI (List.take m (List.drop 0 (List.take m (List.drop 0 P'))) ++ List.take n (List.drop 0 P)) (List.take m (List.drop 0 (List.take m (List.drop 0 R'))) ++ List.take n (List.drop 0 R)) (List.take m (List.drop 0 (List.take m (List.drop 0 S'))) ++ List.take n (List.drop 0 S)) (List.take m (List.drop 0 (List.take m (List.drop 0 A'))) ++ List.take n (List.drop 0 A)) 0 (m + n) =
    hdI P' R' S' A' 0 m ++ hdI P R S A 0 n := by
  unfold hdI
  rw [← List.range'_append_1, List.map_append, Nat.zero_add]
  congr 1
  · refine List.map_congr_left fun i hi => ?_
    have hi : i < m := by have := List.mem_range'_1.1 hi; omega
    unfold hdAt
    rw [app_get1 h1 hi, app_get1 h2 hi, app_get1 h3 hi, app_get1 h4 hi]
  · apply List.ext_getElem
    · simp
    · intro i e1 e2
      have hi : i < n := by simpa using e1
      simp only [List.getElem_map, List.getElem_range', Nat.one_mul, Nat.zero_add]
      unfold hdAt
      rw [app_get2 h1 hi, app_get2 h2 hi, app_get2 h3 hi, app_get2 h4 hi]
theorem pre_ok {b : Bool} {l m r q s t u : List Bool} (h0 : b = true) (h1 : conj l = true) (h2 : conj m = true) (h3 : conj r = true) (h4 : conj q = true) (h5 : conj s = true) (h6 : conj t = true) : conj ([b] ++ (l ++ (m ++ (r ++ (q ++ (s ++ t)))))) = true := by
  subst h0
  exact cj_app _ _ rfl (cj_app _ _ h1 (cj_app _ _ h2 (cj_app _ _ h3 (cj_app _ _ h4 (cj_app _ _ h5 h6)))))
theorem merges_any (X X' : Option Addr) (n n' k k' : Nat) (cs cs' : List Col) (i i' : LI) (w : World) (hin : InB w X n (.rows cs) i) (hnc : n ≤ k) (hf : Fits n [.i .i64, .i .i64, .i .i64, .i .i64, .b] cs) (hin' : InB w X' n' (.rows cs') i') (hnc' : n' ≤ k') (hf' : Fits n' [.i .i64, .i .i64, .i .i64, .i .i64, .b] cs') : Gives 5 #[.slice X n k, .slice X' n' k'] w (.bool true) := by
  obtain ⟨_, _, rfl, ⟨P, rfl, h1, _⟩, _, _, rfl, ⟨R, rfl, h2, _⟩, _, _, rfl, ⟨S, rfl, h3, _⟩, _, _, rfl, ⟨Q, rfl, h4, _⟩, _, _, rfl, ⟨G, rfl, h5⟩, rfl⟩ := hf
  obtain ⟨_, _, rfl, ⟨P', rfl, j1, _⟩, _, _, rfl, ⟨R', rfl, j2, _⟩, _, _, rfl, ⟨S', rfl, j3, _⟩, _, _, rfl, ⟨Q', rfl, j4, _⟩, _, _, rfl, ⟨G', rfl, j5⟩, rfl⟩ := hf'
  let ρ : Rho := fun l => match l with
    | 0 => i
    | _ => i'
  have hm : MRel ρ ⟨[(0, some ⟨false, false, hdC P R S Q G⟩), (1, some ⟨false, false, hdC P' R' S' Q' G'⟩)], 2⟩ w := mrel_two (hin.ok _ _) (hin'.ok _ _) rfl rfl
  have hx : AV.rels ρ 2 [.sl false 0 5 0 1 n (some k), .sl false 1 5 0 1 n' (some k')] [.slice X n k, .slice X' n' k'] := by
    simp only [AV.rels]
    exact ⟨_, _, rfl, hin.arg (ρ := ρ) (l := 0) (by omega) hnc 5 1, _, _, rfl, hin'.arg (ρ := ρ) (l := 1) (by omega) hnc' 5 1, rfl⟩
  refine gives_true (c := bodyOf Try.f5) (m' := ⟨[], 2000⟩) Try.func5 rfl ?_ rfl hm hx
  by_cases hn : 30 < n ∨ 30 < n'
  · have he := mm_big P R S Q P' R' S' Q' G G' false false (some k) (some k') n n'
    have e : (bif decide ((30 : Int) < Int.ofNat n) then true else decide ((30 : Int) < Int.ofNat n')) = true := by
      by_cases h : 30 < n
      · rw [decide_eq_true (show (30 : Int) < Int.ofNat n by show (30 : Int) < (n : Int); omega)]; rfl
      · rw [decide_eq_false (show ¬ (30 : Int) < Int.ofNat n by show ¬ (30 : Int) < (n : Int); omega), cond_false, decide_eq_true (show (30 : Int) < Int.ofNat n' by show (30 : Int) < (n' : Int); omega)]
    rw [e] at he
    exact FO_ret hE_mm mixedP rfl rfl he rfl
  · have hb : (!(bif decide ((30 : Int) < Int.ofNat n) then true else decide ((30 : Int) < Int.ofNat n'))) = true := by
      rw [decide_eq_false (show ¬ (30 : Int) < Int.ofNat n by show ¬ (30 : Int) < (n : Int); omega), decide_eq_false (show ¬ (30 : Int) < Int.ofNat n' by show ¬ (30 : Int) < (n' : Int); omega)]
      rfl
    have hA := of_holds P R S Q n 0 [] [] holds_nil (by simp; omega)
    have hB := of_holds P' R' S' Q' n' 0 [] [] holds_nil (by simp; omega)
    rw [List.nil_append] at hA hB
    have qA : conj (ofQ n P R S Q G) = true := ofQ_ok (by omega) (by omega) (by omega) (by omega) (by omega) (by omega)
    have qB : conj (ofQ n' P' R' S' Q' G') = true := ofQ_ok (by omega) (by omega) (by omega) (by omega) (by omega) (by omega)
    have hl : (hdI P R S Q 0 n).length + (hdI P' R' S' Q' 0 n').length ≤ 100000 := by rw [hdI_len, hdI_len]; omega
    match n, n' with
    | 0, 0 =>
      have he := mm_zz P R S Q P' R' S' Q' G G' false false (some k) (some k')
      refine FO_ret hE_mm mixedP rfl rfl he (pre_ok (u := []) hb qA qB (rowQ_ok hA) (rowQ_ok hB) rfl (restQ_ok hA hB holds_nil rfl rfl rfl rfl hl qA qB (.inl rfl)))
    | 0, n' + 1 =>
      have he := mm_zp P R S Q P' R' S' Q' G G' false false (some k) (some k') n'
      have hC := of_holds (List.take (n' + 1) (List.drop 0 P')) (List.take (n' + 1) (List.drop 0 R')) (List.take (n' + 1) (List.drop 0 S')) (List.take (n' + 1) (List.drop 0 Q')) (n' + 1) 0 [] [] holds_nil (by simp; omega)
      rw [List.nil_append] at hC
      refine FO_ret hE_mm mixedP rfl rfl he (pre_ok (u := []) hb qA qB (rowQ_ok hA) (rowQ_ok hB) ?_ (restQ_ok hA hB hC (by rw [hdI_cut]; simp [hdI]) rfl rfl rfl hl qA qB (.inr (ofQ_ok (by omega) (by rw [cut_len (by omega)]; omega) (by rw [cut_len (by omega)]; omega) (by rw [cut_len (by omega)]; omega) (by rw [cut_len (by omega)]; omega) (by rw [cut_len (by omega)]; omega)))))
      rw [decide_eq_true (show (n' + 1) * 40 ≤ 140737488355328 by omega), nestQ_ok (by omega) (by omega) (by omega) (by omega) (by omega)]
      rfl
    | n + 1, 0 =>
      have he := mm_pz P R S Q P' R' S' Q' G G' false false (some k) (some k') n
      have hC := of_holds (List.take (n + 1) (List.drop 0 P)) (List.take (n + 1) (List.drop 0 R)) (List.take (n + 1) (List.drop 0 S)) (List.take (n + 1) (List.drop 0 Q)) (n + 1) 0 [] [] holds_nil (by simp; omega)
      rw [List.nil_append] at hC
      refine FO_ret hE_mm mixedP rfl rfl he (pre_ok (u := []) hb qA qB (rowQ_ok hA) (rowQ_ok hB) ?_ (restQ_ok hA hB hC (by rw [hdI_cut]; rfl) rfl rfl rfl hl qA qB (.inr (ofQ_ok (by omega) (by rw [cut_len (by omega)]; omega) (by rw [cut_len (by omega)]; omega) (by rw [cut_len (by omega)]; omega) (by rw [cut_len (by omega)]; omega) (by rw [cut_len (by omega)]; omega)))))
      rw [decide_eq_true (show (n + 1) * 40 ≤ 140737488355328 by omega), nestQ_ok (by omega) (by omega) (by omega) (by omega) (by omega)]
      rfl
    | n + 1, n' + 1 =>
      have he := mm_pp P R S Q P' R' S' Q' G G' false false (some k) (some k') n n'
      have hC := of_holds (List.take (n' + 1) (List.drop 0 (List.take (n' + 1) (List.drop 0 P'))) ++ List.take (n + 1) (List.drop 0 P)) (List.take (n' + 1) (List.drop 0 (List.take (n' + 1) (List.drop 0 R'))) ++ List.take (n + 1) (List.drop 0 R)) (List.take (n' + 1) (List.drop 0 (List.take (n' + 1) (List.drop 0 S'))) ++ List.take (n + 1) (List.drop 0 S)) (List.take (n' + 1) (List.drop 0 (List.take (n' + 1) (List.drop 0 Q'))) ++ List.take (n + 1) (List.drop 0 Q)) (n' + 1 + (n + 1)) 0 [] [] holds_nil (by simp; omega)
      rw [List.nil_append] at hC
      have ln : ∀ {α : Type} (l l' : List α), n' + 1 ≤ l.length → n + 1 ≤ l'.length → n' + 1 + (n + 1) ≤ (List.take (n' + 1) (List.drop 0 (List.take (n' + 1) (List.drop 0 l))) ++ List.take (n + 1) (List.drop 0 l')).length := fun l l' e1 e2 => by
        rw [List.length_append, cut2_len e1, cut_len e2]; exact Nat.le_refl _
      have lt : ∀ {α : Type} (l : List α), n' + 1 ≤ l.length → n' + 1 ≤ (List.take (n' + 1) (List.drop 0 l)).length := fun l e1 => by rw [cut_len e1]; exact Nat.le_refl _
      refine FO_ret hE_mm mixedP rfl rfl he (pre_ok (u := []) hb qA qB (rowQ_ok hA) (rowQ_ok hB) ?_ (restQ_ok hA hB hC (hdI_app (by omega) (by omega) (by omega) (by omega)) rfl rfl rfl hl qA qB (.inr (ofQ_ok (by omega) (ln _ _ (by omega) (by omega)) (ln _ _ (by omega) (by omega)) (ln _ _ (by omega) (by omega)) (ln _ _ (by omega) (by omega)) (ln _ _ (by omega) (by omega))))))
      rw [decide_eq_true (show (n' + 1) * 40 ≤ 140737488355328 by omega), decide_eq_true (show (n' + 1 + (n + 1)) * 40 ≤ 140737488355328 by omega), nestQ_ok (n := 0 + (n' + 1)) (by omega) (by omega) (by omega) (by omega) (by omega), nestQ_ok (n := 0 + (n + 1)) (by omega) (by omega) (by omega) (by omega) (by omega), nestQ_ok (lt _ (by omega)) (lt _ (by omega)) (lt _ (by omega)) (lt _ (by omega)) (lt _ (by omega))]
      rfl
set_option maxRecDepth 100000 in
theorem censusMerges_lifted (os : Os) (started : os.Started) (H : Type) (enc : TypeId × Value → H) :
    ReturnsInHanded {} Try.checked os 5 .any (Rows.censusMergesSpec.pre6 enc Try.prog Try.f5 Rows.censusMergesRow.domain false) (Rows.censusMergesSpec.post enc Try.prog Try.f5 false true false false) := by
  refine returnsInHanded_of_change (C := Try.checked) Try.own started (by kernel_rfl) Try.func5
    (ChangeSpec.witness6 (enc := enc) (C := Try.checked) false ⟨#[], #[.slice none 0 0, .slice none 0 0], []⟩ 8 (by kernel_rfl) (by kernel_rfl) (by kernel_rfl) (by kernel_rfl)) ?_
  intro W base args ds gs before hval0 hW hcnd hsized
  have hval : ∀ (j : Nat) t v, Try.f5.params[j]? = some t → args[j]? = some v → Value.okWide Try.prog W .any base t v := hval0
  have hW' := hW
  obtain ⟨p, q, hA0, hV, rfl, hfz, hnd⟩ := hW
  have hA : DataW.TrodAll enc Try.prog W 0 (fun _ => true) true Try.f5.params.toList args.toList ds p := hA0
  rw [Try.params5] at hA hval
  obtain ⟨v0, v1, d0, d1, p0, p1, rfl, rfl, rfl, h0, h1⟩ := trodAll_two hA
  obtain ⟨A, n, c, cs, i, rfl, hnc, hc, hf, hin⟩ := open_nrows [.i .i64, .i .i64, .i .i64, .i .i64, .b] Try.underlying22 (show leavesT Try.prog 9 50 = some [3, 3, 3, 3, 4] by kernel_rfl) (by kernel_rfl) (by decide) (by kernel_rfl) (hval 0 _ v0 rfl rfl) h0
  obtain ⟨A', n', c', cs', i', rfl, hnc', hc', hf', hin'⟩ := open_nrows [.i .i64, .i .i64, .i .i64, .i .i64, .b] Try.underlying22 (show leavesT Try.prog 9 50 = some [3, 3, 3, 3, 4] by kernel_rfl) (by kernel_rfl) (by decide) (by kernel_rfl) (hval 1 _ v1 rfl rfl) h1
  refine Gives.use (merges_any A A' n n' c c' cs cs' i i' W hin hnc hf hin' hnc' hf') fun W' hb => ?_
  exact ⟨_, rfl, law_post Try.laidOut (by kernel_rfl) (by kernel_rfl) Try.underlying4 rfl hW' ⟨rfl, rfl, rfl⟩ hb⟩
theorem censusMerges_holds : Rows.CensusMergesSaid :=
  OpenClaim.holds_of_wide 5 Try.f5 rfl rfl rfl rfl rfl rfl rfl ⟨rfl, rfl, rfl, rfl, rfl⟩ rfl rfl rfl rfl rfl (by kernel_rfl) Try.func5 (by kernel_rfl)
    (of_decide_eq_true (by kernel_rfl)) (by unfold Func.isWrapper; first | (rw [if_pos (by decide +kernel)]; kernel_rfl) | (rw [if_neg (by decide +kernel)]; exact ⟨rfl, rfl⟩))
    (fun os started H enc _ => censusMerges_lifted os started H enc)
end Go.Proofs.Ytbjealobiblabaa
