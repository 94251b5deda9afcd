/-
  WideTimes, WideBack: the laws' runs.
-/
import Derived.Test.YtanfjgkohhlcoaaVg
namespace Go.Proofs.Ytanfjgkohhlcoaa
open Go Go.RowKit
set_option maxRecDepth 100000
theorem wt_run (a b n : Int) : F_ Try.prog L_w Try.f3 [] [] 99 [.agg [vu a, vu b], vu n] noMem = bif bif !(satH (wv a b * n) == satH (wv a b * n) && (satL (wv a b * n) == satL (wv a b * n) && true)) then true else !satF (wv a b * n) == satF (wv a b * n) then some (Fin_.ret (AV.val (Value.bool false)) { bl := [], nx := 99 } (bif inU a then bif inU b then bif inU n then bif inU a then bif inU b then bif inU n then bif inU a then bif inU b then bif inU n then true else false else false else false else false else false else false else false else false else false)) else bif n == 0 then some (Fin_.ret (AV.val (Value.bool (bif bif qH a b n == 0 && (qL a b n == 0 && true) then wLft a b n == 0 else false then wErr n == 1 else false))) { bl := [], nx := 99 } (bif inU a then bif inU b then bif inU n then bif inU a then bif inU b then bif inU n then bif inU a then bif inU b then bif inU n then true else false else false else false else false else false else false else false else false else false)) else some (Fin_.ret (AV.val (Value.bool (bif bif qH a b n == qH a b n && (qL a b n == qL a b n && true) then wLft a b n == qR a b n else false then wErr n == 0 else false))) { bl := [], nx := 99 } (bif inU a then bif inU b then bif inU n then bif inU a then bif inU b then bif inU n then bif inU a then bif inU b then bif inU n then bif inU a then bif inU b then bif inU n then bif decide (0 < n) then true else false else false else false else false else false else false else false else false else false else false else false else false else false)) := by kernel_rfl
theorem wb_run (a b c d n : Int) : F_ Try.prog L_w Try.f7 [] [] 99 [.agg [vu a, vu b], .agg [vu c, vu d], vu n] noMem = bif satF (wv a b + wv c d) then bif bif bif !subF (wv (satH (wv a b + wv c d)) (satL (wv a b + wv c d))) (wv c d) then true else !(subH (wv (satH (wv a b + wv c d)) (satL (wv a b + wv c d))) (wv c d) == a && (subL (wv (satH (wv a b + wv c d)) (satL (wv a b + wv c d))) (wv c d) == b && true)) then true else decide (wv (satH (wv a b + wv c d)) (satL (wv a b + wv c d)) < wv a b) then some (Fin_.ret (AV.val (Value.bool false)) { bl := [], nx := 99 } (bif inU a then bif inU b then bif inU c then bif inU d then bif inU (satH (wv a b + wv c d)) then bif inU (satL (wv a b + wv c d)) then bif inU c then bif inU d then bif (!!bif !subF (wv (satH (wv a b + wv c d)) (satL (wv a b + wv c d))) (wv c d) then true else !(subH (wv (satH (wv a b + wv c d)) (satL (wv a b + wv c d))) (wv c d) == a && (subL (wv (satH (wv a b + wv c d)) (satL (wv a b + wv c d))) (wv c d) == b && true))) || inU (satH (wv a b + wv c d)) then bif (!!bif !subF (wv (satH (wv a b + wv c d)) (satL (wv a b + wv c d))) (wv c d) then true else !(subH (wv (satH (wv a b + wv c d)) (satL (wv a b + wv c d))) (wv c d) == a && (subL (wv (satH (wv a b + wv c d)) (satL (wv a b + wv c d))) (wv c d) == b && true))) || inU (satL (wv a b + wv c d)) then bif (!!bif !subF (wv (satH (wv a b + wv c d)) (satL (wv a b + wv c d))) (wv c d) then true else !(subH (wv (satH (wv a b + wv c d)) (satL (wv a b + wv c d))) (wv c d) == a && (subL (wv (satH (wv a b + wv c d)) (satL (wv a b + wv c d))) (wv c d) == b && true))) || inU a then bif (!!bif !subF (wv (satH (wv a b + wv c d)) (satL (wv a b + wv c d))) (wv c d) then true else !(subH (wv (satH (wv a b + wv c d)) (satL (wv a b + wv c d))) (wv c d) == a && (subL (wv (satH (wv a b + wv c d)) (satL (wv a b + wv c d))) (wv c d) == b && true))) || inU b then true else false else false else false else false else false else false else false else false else false else false else false else false)) else bif n == 0 then some (Fin_.ret (AV.val (Value.bool true)) { bl := [], nx := 99 } (bif inU a then bif inU b then bif inU c then bif inU d then bif inU (satH (wv a b + wv c d)) then bif inU (satL (wv a b + wv c d)) then bif inU c then bif inU d then bif (!!bif !subF (wv (satH (wv a b + wv c d)) (satL (wv a b + wv c d))) (wv c d) then true else !(subH (wv (satH (wv a b + wv c d)) (satL (wv a b + wv c d))) (wv c d) == a && (subL (wv (satH (wv a b + wv c d)) (satL (wv a b + wv c d))) (wv c d) == b && true))) || inU (satH (wv a b + wv c d)) then bif (!!bif !subF (wv (satH (wv a b + wv c d)) (satL (wv a b + wv c d))) (wv c d) then true else !(subH (wv (satH (wv a b + wv c d)) (satL (wv a b + wv c d))) (wv c d) == a && (subL (wv (satH (wv a b + wv c d)) (satL (wv a b + wv c d))) (wv c d) == b && true))) || inU (satL (wv a b + wv c d)) then bif (!!bif !subF (wv (satH (wv a b + wv c d)) (satL (wv a b + wv c d))) (wv c d) then true else !(subH (wv (satH (wv a b + wv c d)) (satL (wv a b + wv c d))) (wv c d) == a && (subL (wv (satH (wv a b + wv c d)) (satL (wv a b + wv c d))) (wv c d) == b && true))) || inU a then bif (!!bif !subF (wv (satH (wv a b + wv c d)) (satL (wv a b + wv c d))) (wv c d) then true else !(subH (wv (satH (wv a b + wv c d)) (satL (wv a b + wv c d))) (wv c d) == a && (subL (wv (satH (wv a b + wv c d)) (satL (wv a b + wv c d))) (wv c d) == b && true))) || inU b then true else false else false else false else false else false else false else false else false else false else false else false else false)) else some (Fin_.ret (AV.val (Value.bool (bif bif bif bif wErr n == 0 then decide (wLft a b n < n) else false then satF (wv (qH a b n) (qL a b n) * n) else false then satF (wv (satH (wv (qH a b n) (qL a b n) * n)) (satL (wv (qH a b n) (qL a b n) * n)) + wv 0 (wLft a b n)) else false then satH (wv (satH (wv (qH a b n) (qL a b n) * n)) (satL (wv (qH a b n) (qL a b n) * n)) + wv 0 (wLft a b n)) == a && (satL (wv (satH (wv (qH a b n) (qL a b n) * n)) (satL (wv (qH a b n) (qL a b n) * n)) + wv 0 (wLft a b n)) == b && true) else false))) { bl := [], nx := 99 } (bif inU a then bif inU b then bif inU c then bif inU d then bif inU (satH (wv a b + wv c d)) then bif inU (satL (wv a b + wv c d)) then bif inU c then bif inU d then bif (!!bif !subF (wv (satH (wv a b + wv c d)) (satL (wv a b + wv c d))) (wv c d) then true else !(subH (wv (satH (wv a b + wv c d)) (satL (wv a b + wv c d))) (wv c d) == a && (subL (wv (satH (wv a b + wv c d)) (satL (wv a b + wv c d))) (wv c d) == b && true))) || inU (satH (wv a b + wv c d)) then bif (!!bif !subF (wv (satH (wv a b + wv c d)) (satL (wv a b + wv c d))) (wv c d) then true else !(subH (wv (satH (wv a b + wv c d)) (satL (wv a b + wv c d))) (wv c d) == a && (subL (wv (satH (wv a b + wv c d)) (satL (wv a b + wv c d))) (wv c d) == b && true))) || inU (satL (wv a b + wv c d)) then bif (!!bif !subF (wv (satH (wv a b + wv c d)) (satL (wv a b + wv c d))) (wv c d) then true else !(subH (wv (satH (wv a b + wv c d)) (satL (wv a b + wv c d))) (wv c d) == a && (subL (wv (satH (wv a b + wv c d)) (satL (wv a b + wv c d))) (wv c d) == b && true))) || inU a then bif (!!bif !subF (wv (satH (wv a b + wv c d)) (satL (wv a b + wv c d))) (wv c d) then true else !(subH (wv (satH (wv a b + wv c d)) (satL (wv a b + wv c d))) (wv c d) == a && (subL (wv (satH (wv a b + wv c d)) (satL (wv a b + wv c d))) (wv c d) == b && true))) || inU b then bif inU a then bif inU b then bif inU n then bif inU (qH a b n) then bif inU (qL a b n) then bif inU n then bif inU (satH (wv (qH a b n) (qL a b n) * n)) then bif inU (satL (wv (qH a b n) (qL a b n) * n)) then bif inU (wLft a b n) then true else false else false else false else false else false else false else false else false else false else false else false else false else false else false else false else false else false else false else false else false else false)) else bif n == 0 then some (Fin_.ret (AV.val (Value.bool true)) { bl := [], nx := 99 } (bif inU a then bif inU b then bif inU c then bif inU d then true else false else false else false else false)) else some (Fin_.ret (AV.val (Value.bool (bif bif bif bif wErr n == 0 then decide (wLft a b n < n) else false then satF (wv (qH a b n) (qL a b n) * n) else false then satF (wv (satH (wv (qH a b n) (qL a b n) * n)) (satL (wv (qH a b n) (qL a b n) * n)) + wv 0 (wLft a b n)) else false then satH (wv (satH (wv (qH a b n) (qL a b n) * n)) (satL (wv (qH a b n) (qL a b n) * n)) + wv 0 (wLft a b n)) == a && (satL (wv (satH (wv (qH a b n) (qL a b n) * n)) (satL (wv (qH a b n) (qL a b n) * n)) + wv 0 (wLft a b n)) == b && true) else false))) { bl := [], nx := 99 } (bif inU a then bif inU b then bif inU c then bif inU d then bif inU a then bif inU b then bif inU n then bif inU (qH a b n) then bif inU (qL a b n) then bif inU n then bif inU (satH (wv (qH a b n) (qL a b n) * n)) then bif inU (satL (wv (qH a b n) (qL a b n) * n)) then bif inU (wLft a b n) then true else false else false else false else false else false else false else false else false else false else false else false else false else false)) := by kernel_rfl
theorem wt_true {a b n : Int} (ha : isU a) (hb : isU b) (hn : isU n) : F_ Try.prog L_w Try.f3 [] [] 99 [.agg [vu a, vu b], vu n] noMem = some (.ret (vb true) ⟨[], 99⟩ true) := by
  rw [wt_run]
  by_cases h0 : n = 0
  · subst h0
    have e1 : qH a b 0 = 0 := by unfold qH qD; rw [Int.ediv_zero]; rfl
    have e2 : qL a b 0 = 0 := by unfold qL qD; rw [Int.ediv_zero]; rfl
    simp only [wErr, wLft, e1, e2, inU_of ha, inU_of hb, inU_of hn, beq_self_eq_true, Bool.and_self, Bool.and_true, Bool.not_true, cond_true, cond_false]
  · have e : (n == 0) = false := beq_false_of_ne h0
    have e3 : decide (0 < n) = true := decide_eq_true (by unfold isU at hn; omega)
    simp only [wErr, wLft, e, e3, inU_of ha, inU_of hb, inU_of hn, beq_self_eq_true, Bool.and_self, Bool.and_true, Bool.not_true, cond_true, cond_false]
theorem wv_sat {s : Int} (h0 : 0 ≤ s) (h : satF s = true) : wv (satH s) (satL s) = s := by
  unfold satH satL
  rw [h]
  unfold wv
  simp only [cond_true]
  omega
theorem sub_back {a b x : Int} (ha : isU a) (hb : isU b) (hx : 0 ≤ x) : subF (wv a b + x) x = true ∧ subH (wv a b + x) x = a ∧ subL (wv a b + x) x = b := by
  have h := wv_in ha hb
  unfold isU at ha hb
  unfold subF subH subL
  rw [decide_eq_false (by omega)]
  have : wv a b + x - x = wv a b := by omega
  rw [this]
  unfold wv
  simp only [cond_false]
  refine ⟨trivial, ?_, ?_⟩ <;> omega
theorem q_in {a b n : Int} (ha : isU a) (hb : isU b) (h0 : 0 < n) : 0 ≤ qD a b n ∧ qD a b n ≤ wv a b ∧ wv (qH a b n) (qL a b n) = qD a b n ∧ isU (qH a b n) ∧ isU (qL a b n) ∧ qD a b n * n + qR a b n = wv a b ∧ 0 ≤ qR a b n ∧ qR a b n < n ∧ 0 ≤ qD a b n * n := by
  obtain ⟨w0, w1⟩ := wv_in ha hb
  have d0 : 0 ≤ qD a b n := Int.ediv_nonneg w0 (by omega)
  have d1 : qD a b n ≤ wv a b := Int.ediv_le_self _ w0
  refine ⟨d0, d1, ?_, ?_, ?_, ?_, Int.emod_nonneg _ (by omega), Int.emod_lt_of_pos _ h0, Int.mul_nonneg d0 (by omega)⟩
  · unfold qH qL wv; omega
  · unfold qH isU; omega
  · unfold qL isU; omega
  · unfold qD qR; rw [Int.mul_comm]; exact Int.mul_ediv_add_emod _ _
theorem wb_true {a b c d n : Int} (ha : isU a) (hb : isU b) (hc : isU c) (hd : isU d) (hn : isU n) : F_ Try.prog L_w Try.f7 [] [] 99 [.agg [vu a, vu b], .agg [vu c, vu d], vu n] noMem = some (.ret (vb true) ⟨[], 99⟩ true) := by
  rw [wb_run]
  obtain ⟨w0, w1⟩ := wv_in ha hb
  obtain ⟨x0, x1⟩ := wv_in hc hd
  obtain ⟨s1, s2⟩ := sat_isU (s := wv a b + wv c d) (by omega)
  obtain ⟨b1, b2, b3⟩ := sub_back ha hb x0
  have hlt : decide (wv a b + wv c d < wv a b) = false := decide_eq_false (by omega)
  have hw : satF (wv a b + wv c d) = true → wv (satH (wv a b + wv c d)) (satL (wv a b + wv c d)) = wv a b + wv c d := wv_sat (by omega)
  generalize hF : satF (wv a b + wv c d) = F at *
  generalize wv a b + wv c d = S at *
  by_cases h0 : n = 0
  · subst h0
    cases F with
    | true => simp only [hw rfl, b1, b2, b3, hlt, inU_of ha, inU_of hb, inU_of hc, inU_of hd, inU_of hn, inU_of s1, inU_of s2, beq_self_eq_true, Bool.and_self, Bool.and_true, Bool.not_true, Bool.not_false, Bool.false_or, Bool.or_true, cond_true, cond_false]
    | false => simp only [inU_of ha, inU_of hb, inU_of hc, inU_of hd, inU_of hn, beq_self_eq_true, cond_true, cond_false]
  · have e : (n == 0) = false := beq_false_of_ne h0
    have hn' := hn
    unfold isU at hn'
    obtain ⟨q0, q1, q2, q3, q4, q5, q6, q7, q8⟩ := q_in ha hb (n := n) (by omega)
    have f1 : satF (qD a b n * n) = true := satF_t (by omega)
    have f2 : wv (satH (qD a b n * n)) (satL (qD a b n * n)) = qD a b n * n := wv_sat q8 f1
    have f3 : wv 0 (qR a b n) = qR a b n := by unfold wv; omega
    obtain ⟨f4, f5, f6⟩ := sat_of (s := wv a b) rfl ha hb
    obtain ⟨t1, t2⟩ := sat_isU q8
    have t3 : isU (qR a b n) := by unfold isU; omega
    have f7 : decide (qR a b n < n) = true := decide_eq_true q7
    cases F with
    | true => simp only [wErr, wLft, hw rfl, b1, b2, b3, hlt, e, q2, f1, f2, f3, q5, f4, f5, f6, f7, inU_of ha, inU_of hb, inU_of hc, inU_of hd, inU_of hn, inU_of s1, inU_of s2, inU_of q3, inU_of q4, inU_of t1, inU_of t2, inU_of t3, beq_self_eq_true, Bool.and_self, Bool.and_true, Bool.not_true, Bool.not_false, Bool.false_or, Bool.or_true, cond_true, cond_false]
    | false => simp only [wErr, wLft, e, q2, f1, f2, f3, q5, f4, f5, f6, f7, inU_of ha, inU_of hb, inU_of hc, inU_of hd, inU_of hn, inU_of q3, inU_of q4, inU_of t1, inU_of t2, inU_of t3, beq_self_eq_true, Bool.and_self, Bool.and_true, Bool.not_true, Bool.not_false, Bool.false_or, Bool.or_true, cond_true, cond_false]
end Go.Proofs.Ytanfjgkohhlcoaa
