/-
  The document's division, bit by bit, and the program's own: both are the quotient and the rest.
-/
import Derived.Test.YtanfjgkohhlcoaaVe
import Derived.Test.YtanfjgkohhlcoaaWM
namespace Go.Proofs.Ytanfjgkohhlcoaa
open Go Go.RowKit
theorem isU_of {x : Int} (h : inU x = true) : isU x := by
  unfold inU at h
  simp only [Bool.and_eq_true, decide_eq_true_eq] at h
  exact h
theorem wv_in {a b : Int} (ha : isU a) (hb : isU b) : 0 ≤ wv a b ∧ wv a b < 340282366920938463463374607431768211456 := by
  unfold isU at ha hb
  unfold wv
  omega
def qD (a b n : Int) : Int := wv a b / n
def qH (a b n : Int) : Int := qD a b n / 18446744073709551616
def qL (a b n : Int) : Int := qD a b n % 18446744073709551616
def qR (a b n : Int) : Int := wv a b % n
-- a bit
def bitV (a b i : Int) : Int := wv a b / 2 ^ i.toNat % 2
theorem pw (j : Nat) : (0 : Int) < 2 ^ j := Int.pow_pos (by decide)
theorem pw_split {i j : Nat} (h : i ≤ j) : (2 : Int) ^ j = 2 ^ i * 2 ^ (j - i) := by rw [← Int.pow_add]; congr 1; omega
theorem pw_lt {j : Nat} (h : j < 64) : (2 : Int) ^ j < 18446744073709551616 := by
  have e : (18446744073709551616 : Int) = 2 ^ j * 2 ^ (64 - j) := by rw [← Int.pow_add, show j + (64 - j) = 64 by omega]; rfl
  have h1 := pw j
  have h2 : (2 : Int) ^ (64 - j) = 2 * 2 ^ (63 - j) := by rw [show 64 - j = (63 - j) + 1 by omega, Int.pow_succ]; omega
  have h3 := pw (63 - j)
  rw [e, h2]
  have : 2 ^ j * 1 < (2 : Int) ^ j * (2 * 2 ^ (63 - j)) := Int.mul_lt_mul_of_pos_left (by omega) h1
  omega
theorem bit_val {a b : Int} (hb : isU b) (j : Nat) : bitV a b j = if j < 64 then b / 2 ^ j % 2 else a / 2 ^ (j - 64) % 2 := by
  have hp := pw j
  unfold bitV wv
  rw [Int.toNat_natCast]
  split
  · rename_i hj
    have e : (18446744073709551616 : Int) = 2 * 2 ^ (63 - j) * 2 ^ j := by rw [← Int.pow_succ', ← Int.pow_add, show 63 - j + 1 + j = 64 by omega]; rfl
    rw [e, ← Int.mul_assoc, Int.add_comm, Int.add_mul_ediv_right _ _ (by omega)]
    rw [show a * (2 * 2 ^ (63 - j)) = (a * 2 ^ (63 - j)) * 2 by rw [Int.mul_assoc, Int.mul_comm 2]]
    rw [Int.add_mul_emod_self_right]
  · rename_i hj
    have e : (2 : Int) ^ j = 18446744073709551616 * 2 ^ (j - 64) := by rw [pw_split (show 64 ≤ j by omega)]; rfl
    rw [e, ← Int.ediv_ediv_of_nonneg (by decide)]
    unfold isU at hb
    rw [show (a * 18446744073709551616 + b) / 18446744073709551616 = a by omega]
def e_bit : Spec := fun _ args => match args with
  | [.agg [.val (.int .u64 a), .val (.int .u64 b)], .val (.int .i64 i)] => some (vu (bitV a b i), none, [inU a, inU b, decide (0 ≤ i), decide (i < 128)])
  | _ => none
theorem bit_run (a b i : Int) : F_ Try.prog [] Try.f74 [] [] 99 [.agg [vu a, vu b], vi i] noMem =
    bif decide (i < 64) then some (Fin_.ret (vu (bits BinOp.and IntKind.u64 (b.fdiv (2 ^ min (IntKind.u64.wrap i).toNat 64)) 1)) ⟨[], 99⟩ (bif decide (0 ≤ IntKind.u64.wrap i) then true else false))
    else some (Fin_.ret (vu (bits BinOp.and IntKind.u64 (a.fdiv (2 ^ min (IntKind.u64.wrap (IntKind.i64.wrap (i - 64))).toNat 64)) 1)) ⟨[], 99⟩ (bif decide (0 ≤ IntKind.u64.wrap (IntKind.i64.wrap (i - 64))) then true else false)) := by kernel_rfl
theorem and1 {x : Int} (h : isU x) : bits .and .u64 x 1 = x % 2 := bits_mask .u64 64 (by decide) wraps_u64 1 (by decide) x h.1 h.2
theorem shr_in {x : Int} (h : isU x) (j : Nat) : isU (x.fdiv (2 ^ j)) ∧ x.fdiv (2 ^ j) = x / 2 ^ j := by
  have hp := pw j
  have e : x.fdiv (2 ^ j) = x / 2 ^ j := Int.fdiv_eq_ediv_of_nonneg _ (by omega)
  unfold isU at h ⊢
  rw [e]
  have h1 : 0 ≤ x / 2 ^ j := Int.ediv_nonneg h.1 (by omega)
  have h2 : x / 2 ^ j ≤ x := Int.ediv_le_self _ h.1
  omega
theorem ok_bit : SpecOk Try.prog 74 e_bit := fun m args v mo bs h hb => by
  unfold e_bit at h
  split at h
  · rename_i a b i
    cases h
    simp at hb
    obtain ⟨j, rfl⟩ := Int.eq_ofNat_of_zero_le hb.2.2.1
    have ha := isU_of hb.1
    have hb' := isU_of hb.2.1
    refine pure_fn (c := bodyOf Try.f74) (cuts := []) (ns := []) (top := 99) (m' := ⟨[], 99⟩) env_nil mixed (fun xs w => Try.call74 xs w) Try.func74 rfl ?_ rfl rfl
    rw [bit_run, bit_val hb']
    by_cases hj : j < 64
    · obtain ⟨s1, s2⟩ := shr_in hb' j
      rw [if_pos hj, decide_eq_true (show (j : Int) < 64 by omega), wrapW (x := (j : Int)) (by omega), Int.toNat_natCast, Nat.min_eq_left (by omega), and1 s1, s2, decide_eq_true (show (0 : Int) ≤ j by omega)]
      rfl
    · obtain ⟨s1, s2⟩ := shr_in ha (j - 64)
      rw [if_neg hj, decide_eq_false (show ¬ (j : Int) < 64 by omega), show IntKind.i64.wrap ((j : Int) - 64) = ((j - 64 : Nat) : Int) by rw [IntWalk.i64_in _ (by omega)]; omega, wrapW (x := ((j - 64 : Nat) : Int)) (by omega), Int.toNat_natCast ((j - 64)),
        Nat.min_eq_left (show j - 64 ≤ 64 by omega), and1 s1, s2, decide_eq_true (show (0 : Int) ≤ ((j - 64 : Nat) : Int) by omega)]
      rfl
  · cases h
def L_bit : List (FuncId × Spec) := [(74, e_bit)]
theorem hE_bit : ESound Try.prog (envOf L_bit) := env_cons ok_bit env_nil
-- the loop
def rdX (a b r i : Int) : Int := bits .or .u64 (IntKind.u64.wrap (r * 2)) (bitV a b i)
def rdO (r n x : Int) : Bool := bif r.fdiv 9223372036854775808 == 1 then true else decide (n ≤ x)
def rdTm (a b n r i : Int) : List AV := [.agg [vu a, vu b], vu n, .ptr 0 1 0 0, .unk, .ptr 1 1 0 0, .unk, .ptr 2 1 0 0, vu r, vi i] ++ List.replicate 42 .unk
def rdM (a b h l : Int) : MS := ⟨[(0, some ⟨true, false, .cells [vu a, vu b]⟩), (1, some ⟨true, false, .cells [vu 0, vu 0]⟩), (2, some ⟨true, false, .cells [vu h, vu l]⟩)], 3⟩
def rdC : List Cut := [(2, [0, 1, 2, 4, 6, 7, 8], [0, 1, 2], 3)]
def rdP (i : Int) : Int := IntKind.u64.wrap (1 * 2 ^ min (IntKind.u64.wrap i).toNat 64)
theorem rd_in (a b n : Int) : F_ Try.prog L_bit Try.f19 rdC [] 99 [.agg [vu a, vu b], vu n] noMem = some (.head (hd Try.f19 0) (rdTm a b n 0 127) (rdM a b 0 0) true) := by kernel_rfl
theorem rd_round (a b n r i h l : Int) : H_ Try.prog L_bit Try.f19 rdC [] 99 (hd Try.f19 0) (rdTm a b n r i) (rdM a b h l) =
    bif decide (0 ≤ i) then bif rdO r n (rdX a b r i) then
      bif decide (i < 64) then some (.head (hd Try.f19 0) (rdTm a b n (IntKind.u64.wrap (rdX a b r i - n)) (IntKind.i64.wrap (i - 1))) (rdM a b h (bits .or .u64 l (rdP i))) (bif inU a then bif inU b then bif decide (0 ≤ i) then bif decide (i < 128) then bif decide (0 ≤ IntKind.u64.wrap i) then true else false else false else false else false else false))
      else some (.head (hd Try.f19 0) (rdTm a b n (IntKind.u64.wrap (rdX a b r i - n)) (IntKind.i64.wrap (i - 1))) (rdM a b (bits .or .u64 h (rdP (IntKind.i64.wrap (i - 64)))) l) (bif inU a then bif inU b then bif decide (0 ≤ i) then bif decide (i < 128) then bif decide (0 ≤ IntKind.u64.wrap (IntKind.i64.wrap (i - 64))) then true else false else false else false else false else false))
    else some (.head (hd Try.f19 0) (rdTm a b n (rdX a b r i) (IntKind.i64.wrap (i - 1))) (rdM a b h l) (bif inU a then bif inU b then bif decide (0 ≤ i) then bif decide (i < 128) then true else false else false else false else false))
    else some (.ret (.tup [.agg [vu h, vu l], vu r]) ⟨[], 99⟩ true) := by kernel_rfl
-- plain
def rdQ (a b n : Int) (j : Nat) : Int := wv a b / 2 ^ j / n
def rdS (a b n : Int) (j : Nat) : Int := rdQ a b n j * 2 ^ j
def rdL (a b n : Int) (j : Nat) : Int := wv a b / 2 ^ j % n
theorem rd_step {a b n : Int} (ha : isU a) (hb : isU b) (hn : isU n) (h0 : 0 < n) (j : Nat) :
    (rdO (rdL a b n (j + 1)) n (rdX a b (rdL a b n (j + 1)) j) = true → IntKind.u64.wrap (rdX a b (rdL a b n (j + 1)) j - n) = rdL a b n j ∧ rdS a b n j = rdS a b n (j + 1) + 2 ^ j) ∧
    (rdO (rdL a b n (j + 1)) n (rdX a b (rdL a b n (j + 1)) j) = false → rdX a b (rdL a b n (j + 1)) j = rdL a b n j ∧ rdS a b n j = rdS a b n (j + 1)) := by
  obtain ⟨w0, w1⟩ := wv_in ha hb
  unfold isU at hn
  have hp := pw j
  have eT : wv a b / 2 ^ (j + 1) = wv a b / 2 ^ j / 2 := by rw [Int.pow_succ, Int.ediv_ediv_of_nonneg (by omega)]
  have t0 : 0 ≤ wv a b / 2 ^ j := Int.ediv_nonneg w0 (by omega)
  have eB : bitV a b j = wv a b / 2 ^ j % 2 := by unfold bitV; rw [Int.toNat_natCast]
  have r0 : 0 ≤ rdL a b n (j + 1) := Int.emod_nonneg _ (by omega)
  have r1 : rdL a b n (j + 1) < n := Int.emod_lt_of_pos _ h0
  have eR := Int.mul_ediv_add_emod (wv a b / 2 ^ (j + 1)) n
  have eX : rdX a b (rdL a b n (j + 1)) j = rdL a b n (j + 1) * 2 % 18446744073709551616 + wv a b / 2 ^ j % 2 := by
    unfold rdX
    rw [eB, IntKind.wrap_u64]
    exact bits_join .u64 64 (by decide) wraps_u64 1 _ _ (by omega) (by omega) (by omega) (by omega) (by omega) (by omega)
  have eS : rdS a b n (j + 1) = (2 * rdQ a b n (j + 1)) * 2 ^ j := by
    unfold rdS
    rw [Int.pow_succ, Int.mul_comm 2, Int.mul_assoc, Int.mul_comm (2 ^ j) 2]
  rw [eX]
  have key : (n ≤ 2 * rdL a b n (j + 1) + wv a b / 2 ^ j % 2 → rdL a b n j = 2 * rdL a b n (j + 1) + wv a b / 2 ^ j % 2 - n ∧ rdQ a b n j = 2 * rdQ a b n (j + 1) + 1) ∧
      (2 * rdL a b n (j + 1) + wv a b / 2 ^ j % 2 < n → rdL a b n j = 2 * rdL a b n (j + 1) + wv a b / 2 ^ j % 2 ∧ rdQ a b n j = 2 * rdQ a b n (j + 1)) := by
    have e1 : n * rdQ a b n (j + 1) + rdL a b n (j + 1) = wv a b / 2 ^ j / 2 := by rw [← eT]; exact eR
    have e2 : wv a b / 2 ^ j = 2 * (n * rdQ a b n (j + 1)) + (2 * rdL a b n (j + 1) + wv a b / 2 ^ j % 2) := by omega
    generalize rdQ a b n (j + 1) = Q at *
    generalize rdL a b n (j + 1) = R at *
    unfold rdL rdQ
    generalize wv a b / 2 ^ j % 2 = t at *
    refine ⟨fun hc => ?_, fun hc => ?_⟩
    · have e3 : wv a b / 2 ^ j = (2 * R + t - n) + n * (2 * Q + 1) := by
        rw [e2, Int.mul_add, Int.mul_one, Int.mul_left_comm n 2]
        omega
      rw [e3, Int.add_mul_emod_self_left, Int.add_mul_ediv_left _ _ (by omega), Int.emod_eq_of_lt (by omega) (by omega), Int.ediv_eq_zero_of_lt (by omega) (by omega)]
      exact ⟨rfl, by omega⟩
    · have e3 : wv a b / 2 ^ j = (2 * R + t) + n * (2 * Q) := by
        rw [e2, Int.mul_left_comm n 2]
        omega
      rw [e3, Int.add_mul_emod_self_left, Int.add_mul_ediv_left _ _ (by omega), Int.emod_eq_of_lt (by omega) (by omega), Int.ediv_eq_zero_of_lt (by omega) (by omega)]
      exact ⟨rfl, by omega⟩
  have eO : rdO (rdL a b n (j + 1)) n (rdL a b n (j + 1) * 2 % 18446744073709551616 + wv a b / 2 ^ j % 2) = decide (n ≤ 2 * rdL a b n (j + 1) + wv a b / 2 ^ j % 2) := by
    unfold rdO
    rw [Int.fdiv_eq_ediv_of_nonneg _ (by decide)]
    by_cases hc : 9223372036854775808 ≤ rdL a b n (j + 1)
    · rw [show (rdL a b n (j + 1) / 9223372036854775808 == 1) = true by rw [beq_iff_eq]; omega, decide_eq_true (show n ≤ 2 * rdL a b n (j + 1) + wv a b / 2 ^ j % 2 by omega)]
      rfl
    · rw [show (rdL a b n (j + 1) / 9223372036854775808 == 1) = false from beq_false_of_ne (by omega), show rdL a b n (j + 1) * 2 % 18446744073709551616 = 2 * rdL a b n (j + 1) by omega]
      rfl
  rw [eO]
  refine ⟨fun hc => ?_, fun hc => ?_⟩
  · have hc := of_decide_eq_true hc
    obtain ⟨k1, k2⟩ := key.1 hc
    refine ⟨?_, ?_⟩
    · rw [k1, IntKind.wrap_u64]; omega
    · rw [eS]; unfold rdS; rw [k2, Int.add_mul, Int.one_mul]
  · have hc := of_decide_eq_false hc
    obtain ⟨k1, k2⟩ := key.2 (by omega)
    refine ⟨?_, ?_⟩
    · rw [k1]; omega
    · rw [eS]; unfold rdS; rw [k2]
theorem rd_S {a b n : Int} (ha : isU a) (hb : isU b) (h0 : 0 < n) (j : Nat) : 0 ≤ rdS a b n j ∧ rdS a b n j < 340282366920938463463374607431768211456 := by
  obtain ⟨w0, w1⟩ := wv_in ha hb
  have hp := pw j
  have t0 : 0 ≤ wv a b / 2 ^ j := Int.ediv_nonneg w0 (by omega)
  have q0 : 0 ≤ rdQ a b n j := Int.ediv_nonneg t0 (by omega)
  have q1 : rdQ a b n j ≤ wv a b / 2 ^ j := Int.ediv_le_self _ t0
  unfold rdS
  have h1 : rdQ a b n j * 2 ^ j ≤ wv a b / 2 ^ j * 2 ^ j := Int.mul_le_mul_of_nonneg_right q1 (by omega)
  have h2 : wv a b / 2 ^ j * 2 ^ j ≤ wv a b := Int.ediv_mul_le _ (by omega)
  have h3 : 0 ≤ rdQ a b n j * 2 ^ j := Int.mul_nonneg q0 (by omega)
  omega
theorem rdP_eq {j : Nat} (h : j < 64) : rdP j = 2 ^ j := by
  unfold rdP
  rw [wrapW (x := (j : Int)) (by omega), Int.toNat_natCast, Nat.min_eq_left (by omega), Int.one_mul, wrapW ⟨by have := pw j; omega, pw_lt h⟩]
theorem or_bit {s : Int} {j : Nat} (h0 : 0 ≤ s) (h1 : s < 18446744073709551616) (hd : s % 2 ^ (j + 1) = 0) (hj : j < 64) : bits .or .u64 s (2 ^ j) = s + 2 ^ j ∧ s + 2 ^ j < 18446744073709551616 := by
  have hp := pw j
  have e : (2 : Int) ^ (j + 1) = 2 * 2 ^ j := by rw [Int.pow_succ]; omega
  refine ⟨bits_join .u64 64 (by decide) wraps_u64 (j + 1) _ _ h0 hd h1 (by omega) (by omega) (pw_lt hj), ?_⟩
  have eP : (18446744073709551616 : Int) = 2 ^ (j + 1) * 2 ^ (63 - j) := by rw [← Int.pow_add, show j + 1 + (63 - j) = 64 by omega]; rfl
  have eK := Int.mul_ediv_add_emod s (2 ^ (j + 1))
  rw [hd, Int.add_zero] at eK
  have hk : s / 2 ^ (j + 1) < 2 ^ (63 - j) := Int.ediv_lt_of_lt_mul (by omega) (by rw [Int.mul_comm, ← eP]; exact h1)
  have hm : 2 ^ (j + 1) * (s / 2 ^ (j + 1) + 1) ≤ 2 ^ (j + 1) * 2 ^ (63 - j) := Int.mul_le_mul_of_nonneg_left (by omega) (by omega)
  rw [Int.mul_add, eK, ← eP] at hm
  omega
theorem rd_low {a b n : Int} (ha : isU a) (hb : isU b) (h0 : 0 < n) {j : Nat} (hj : j < 64) (hs : rdS a b n j = rdS a b n (j + 1) + 2 ^ j) :
    bits .or .u64 (rdS a b n (j + 1) % 18446744073709551616) (rdP j) = rdS a b n j % 18446744073709551616 ∧ rdS a b n (j + 1) / 18446744073709551616 = rdS a b n j / 18446744073709551616 := by
  have hp := pw j
  have hd : rdS a b n (j + 1) % 18446744073709551616 % 2 ^ (j + 1) = 0 := by
    rw [Int.emod_emod_of_dvd _ ⟨2 ^ (63 - j), by rw [← Int.pow_add, show j + 1 + (63 - j) = 64 by omega]; rfl⟩]
    exact Int.mul_emod_left _ _
  obtain ⟨o1, o2⟩ := or_bit (by omega) (by omega) hd hj
  have := rd_S ha hb h0 (j + 1)
  rw [rdP_eq hj, o1, hs]
  omega
theorem rd_high {a b n : Int} (ha : isU a) (hb : isU b) (h0 : 0 < n) {j : Nat} (hj : 64 ≤ j) (hj2 : j < 128) (hs : rdS a b n j = rdS a b n (j + 1) + 2 ^ j) :
    bits .or .u64 (rdS a b n (j + 1) / 18446744073709551616) (rdP ((j - 64 : Nat) : Int)) = rdS a b n j / 18446744073709551616 ∧ rdS a b n (j + 1) % 18446744073709551616 = rdS a b n j % 18446744073709551616 := by
  have hS := rd_S ha hb h0 (j + 1)
  have e : rdS a b n (j + 1) = rdQ a b n (j + 1) * 2 ^ (j - 64 + 1) * 18446744073709551616 := by
    unfold rdS
    rw [Int.mul_assoc, show j + 1 = (j - 64 + 1) + 64 by omega, Int.pow_add]
    rfl
  have e2 : (2 : Int) ^ j = 2 ^ (j - 64) * 18446744073709551616 := by
    rw [show j = (j - 64) + 64 by omega, Int.pow_add, show j - 64 + 64 - 64 = j - 64 by omega]
    rfl
  have eh : rdS a b n (j + 1) / 18446744073709551616 = rdQ a b n (j + 1) * 2 ^ (j - 64 + 1) := by rw [e]; omega
  obtain ⟨o1, o2⟩ := or_bit (s := rdS a b n (j + 1) / 18446744073709551616) (j := j - 64) (by omega) (by omega) (by rw [eh]; exact Int.mul_emod_left _ _) (by omega)
  rw [rdP_eq (by omega), o1, hs, e2]
  generalize (2 : Int) ^ (j - 64) = p at *
  omega
theorem rd_loop {a b n : Int} (ha : isU a) (hb : isU b) (hn : isU n) (h0 : 0 < n) : ∀ (j : Nat), j ≤ 128 →
    Gives_ Try.prog Try.f19 0 ⟨hd Try.f19 0, rdTm a b n (rdL a b n j) ((j : Int) - 1), rdM a b (rdS a b n j / 18446744073709551616) (rdS a b n j % 18446744073709551616)⟩ (.tup [.agg [vu (qH a b n), vu (qL a b n)], vu (qR a b n)]) ⟨[], 99⟩
  | 0, _ => by
    refine H_ret (cuts := rdC) (ns := []) (top := 99) hE_bit mixed rfl ?_
    have e : rdS a b n 0 = qD a b n := by unfold rdS rdQ qD; simp
    have e2 : rdL a b n 0 = qR a b n := by unfold rdL qR; simp
    rw [rd_round, e, e2, decide_eq_false (show ¬ (0 : Int) ≤ ((0 : Nat) : Int) - 1 by omega)]
    rfl
  | j + 1, hj => by
    have hst := rd_step ha hb hn h0 j
    have ei : ((j + 1 : Nat) : Int) - 1 = (j : Int) := by omega
    have ew : IntKind.i64.wrap ((j : Int) - 1) = (j : Int) - 1 := IntWalk.i64_in _ (by omega)
    rw [ei]
    refine Goes.gives (H_head (f := Try.f19) (cuts := rdC) (ns := []) (top := 99) hE_bit mixed rfl ?_) (rd_loop ha hb hn h0 j (by omega))
    rw [rd_round, ew, inU_of ha, inU_of hb, decide_eq_true (show (0 : Int) ≤ j by omega), decide_eq_true (show (j : Int) < 128 by omega)]
    cases hO : rdO (rdL a b n (j + 1)) n (rdX a b (rdL a b n (j + 1)) j) with
    | true =>
      obtain ⟨g1, g2⟩ := hst.1 hO
      by_cases hc : j < 64
      · obtain ⟨g3, g4⟩ := rd_low ha hb h0 hc g2
        rw [decide_eq_true (show (j : Int) < 64 by omega), g1, g3, g4, wrapW (x := (j : Int)) (by omega), decide_eq_true (show (0 : Int) ≤ j by omega)]
        rfl
      · obtain ⟨g3, g4⟩ := rd_high ha hb h0 (by omega) (by omega) g2
        rw [decide_eq_false (show ¬ (j : Int) < 64 by omega), show IntKind.i64.wrap ((j : Int) - 64) = ((j - 64 : Nat) : Int) by rw [IntWalk.i64_in _ (by omega)]; omega, g1, g3, g4, wrapW (x := ((j - 64 : Nat) : Int)) (by omega), decide_eq_true (show (0 : Int) ≤ ((j - 64 : Nat) : Int) by omega)]
        rfl
    | false =>
      obtain ⟨g1, g2⟩ := hst.2 hO
      rw [g1, g2]
      rfl
abbrev qAns (a b n : Int) : AV := .tup [.agg [vu (qH a b n), vu (qL a b n)], vu (qR a b n)]
def e_rd : Spec := fun _ args => match args with
  | [.agg [.val (.int .u64 a), .val (.int .u64 b)], .val (.int .u64 n)] => some (qAns a b n, none, [inU a, inU b, inU n, decide (0 < n)])
  | _ => none
theorem ok_rd : SpecOk Try.prog 19 e_rd := fun m args v mo bs h hb => by
  unfold e_rd at h
  split at h
  · rename_i a b n
    cases h
    simp at hb
    have ha := isU_of hb.1
    have hb' := isU_of hb.2.1
    have hn := isU_of hb.2.2.1
    obtain ⟨w0, w1⟩ := wv_in ha hb'
    have e0 : wv a b / 2 ^ 128 = 0 := Int.ediv_eq_zero_of_lt w0 w1
    have e1 : rdS a b n 128 = 0 := by unfold rdS rdQ; rw [e0, Int.zero_ediv, Int.zero_mul]
    have e2 : rdL a b n 128 = 0 := by unfold rdL; rw [e0, Int.zero_emod]
    have hl := rd_loop ha hb' hn hb.2.2.2 128 (by omega)
    rw [e1, e2] at hl
    exact lift_ground (fsound (c := bodyOf Try.f19) (fun xs w => Try.call19 xs w) Try.func19 rfl
      (Goes.gives (F_head (f := Try.f19) (c := bodyOf Try.f19) (cuts := rdC) (ns := []) (top := 99) hE_bit mixed rfl rfl (rd_in a b n)) hl)) rfl rfl
  · cases h
-- the program's own
abbrev qAnsE (a b n : Int) : AV := .tup [.agg [vu (qH a b n), vu (qL a b n)], vu (qR a b n), vi 0]
theorem wd_run (a b n : Int) : F_ Try.prog L_dv Try.f18 [] [] 99 [.agg [vu a, vu b], vu n] noMem = bif n == 0 then some (.ret (.tup [.agg [vu 0, vu 0], vu 0, vi 1]) ⟨[], 99⟩ true) else
    some (.ret (.tup [.agg [vu (IntKind.u64.wrap (a.tdiv n)), vu (dv0 (a.tmod n) b n)], vu (dv1 (a.tmod n) b n), vi 0]) ⟨[], 99⟩ (bif decide (n ≠ 0) then bif decide (n ≠ 0) then bif decide (0 ≤ a.tmod n) then bif decide (a.tmod n < n) then bif decide (n < 18446744073709551616) then bif decide (0 ≤ b) then bif decide (b < 18446744073709551616) then true else false else false else false else false else false else false else false)) := by kernel_rfl
def e_wd : Spec := fun _ args => match args with
  | [.agg [.val (.int .u64 a), .val (.int .u64 b)], .val (.int .u64 n)] => some (qAnsE a b n, none, [inU a, inU b, inU n, decide (0 < n)])
  | _ => none
theorem q_parts {a b n : Int} (ha : isU a) (hb : isU b) (h0 : 0 < n) : a / n = qH a b n ∧ dv0 (a % n) b n = qL a b n ∧ dv1 (a % n) b n = qR a b n := by
  unfold isU at ha hb
  have e := Int.mul_ediv_add_emod a n
  have m0 := Int.emod_nonneg a (show n ≠ 0 by omega)
  have m1 := Int.emod_lt_of_pos a h0
  have ew : wv a b = (a % n * 18446744073709551616 + b) + n * (a / n * 18446744073709551616) := by
    unfold wv
    rw [← Int.mul_assoc]
    omega
  have eq : qD a b n = dv0 (a % n) b n + a / n * 18446744073709551616 := by
    unfold qD dv0
    rw [ew, Int.add_mul_ediv_left _ _ (by omega)]
  have d0 : 0 ≤ dv0 (a % n) b n := Int.ediv_nonneg (by omega) (by omega)
  have d1 : dv0 (a % n) b n < 18446744073709551616 := by
    refine Int.ediv_lt_of_lt_mul h0 ?_
    have : (a % n + 1) * 18446744073709551616 ≤ n * 18446744073709551616 := Int.mul_le_mul_of_nonneg_right (by omega) (by decide)
    rw [Int.mul_comm _ n]
    omega
  refine ⟨?_, ?_, ?_⟩
  · unfold qH; rw [eq]; omega
  · unfold qL; rw [eq]; omega
  · unfold qR dv1; rw [ew, Int.add_mul_emod_self_left]
theorem ok_wd : SpecOk Try.prog 18 e_wd := fun m args v mo bs h hb => by
  unfold e_wd at h
  split at h
  · rename_i a b n
    cases h
    simp at hb
    have ha := isU_of hb.1
    have hb' := isU_of hb.2.1
    have hn := isU_of hb.2.2.1
    have h0 := hb.2.2.2
    obtain ⟨q1, q2, q3⟩ := q_parts ha hb' h0
    unfold isU at ha hb' hn
    have m0 := Int.emod_nonneg a (show n ≠ 0 by omega)
    have m1 := Int.emod_lt_of_pos a h0
    have d0 : 0 ≤ a / n := Int.ediv_nonneg ha.1 (by omega)
    have d1 : a / n ≤ a := Int.ediv_le_self _ ha.1
    refine pure_fn (c := bodyOf Try.f18) (cuts := []) (ns := []) (top := 99) (m' := ⟨[], 99⟩) hE_dv mixed (fun xs w => Try.call18 xs w) Try.func18 rfl ?_ rfl rfl
    rw [wd_run, Int.tdiv_eq_ediv_of_nonneg ha.1, Int.tmod_eq_emod_of_nonneg ha.1, wrapW (x := a / n) (by omega), q1, q2, q3, show (n == 0) = false from beq_false_of_ne (by omega), decide_eq_true (show n ≠ 0 by omega), decide_eq_true m0, decide_eq_true m1, decide_eq_true hn.2, decide_eq_true hb'.1, decide_eq_true hb'.2]
    rfl
  · cases h
def e_wd0 : Spec := fun _ args => match args with
  | [.agg [.val (.int .u64 _), .val (.int .u64 _)], .val (.int .u64 0)] => some (.tup [.agg [vu 0, vu 0], vu 0, vi 1], none, [])
  | _ => none
end Go.Proofs.Ytanfjgkohhlcoaa
