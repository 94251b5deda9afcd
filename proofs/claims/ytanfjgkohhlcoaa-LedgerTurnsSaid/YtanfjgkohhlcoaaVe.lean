/-
  math/bits.Div64's contract.
-/
import Derived.IntWalk
import Derived.Lib.EndianBits
import Derived.Lib.ItoaNum
import Derived.Test.YtanfjgkohhlcoaaVd
namespace Go.Proofs.Ytanfjgkohhlcoaa
open Go Go.RowKit
def dv0 (h l y : Int) : Int := (h * 18446744073709551616 + l) / y
def dv1 (h l y : Int) : Int := (h * 18446744073709551616 + l) % y
theorem lz_in {y : Int} (h0 : 0 < y) (h1 : y < 18446744073709551616) : ∃ s : Nat, lz y = s ∧ s ≤ 63 ∧ 9223372036854775808 ≤ y * 2 ^ s ∧ y * 2 ^ s < 18446744073709551616 := by
  obtain ⟨n, rfl⟩ := Int.eq_ofNat_of_zero_le (Int.le_of_lt h0)
  obtain ⟨b1, b2, b3⟩ := Lib.bitLenAux_bounds 64 n (by omega) (by omega)
  have b4 : Lib.bitLenAux 64 n ≤ 64 := Lib.bitLenAux_le 64 n 64 (by omega)
  unfold lz Lib.bitLen
  rw [Int.toNat_natCast]
  generalize Lib.bitLenAux 64 n = k at *
  have ec : (n : Int) * 2 ^ (64 - k) = ((n * 2 ^ (64 - k) : Nat) : Int) := by rw [Int.natCast_mul, Int.natCast_pow]; rfl
  refine ⟨64 - k, by omega, by omega, ?_, ?_⟩
  · have e : 2 ^ (k - 1) * 2 ^ (64 - k) = 9223372036854775808 := by
      rw [← Nat.pow_add, show k - 1 + (64 - k) = 63 by omega]
    have : 2 ^ (k - 1) * 2 ^ (64 - k) ≤ n * 2 ^ (64 - k) := Nat.mul_le_mul_right _ b2
    rw [e] at this
    rw [ec]
    omega
  · have e : 2 ^ k * 2 ^ (64 - k) = 18446744073709551616 := by
      rw [← Nat.pow_add, show k + (64 - k) = 64 by omega]
    have : n * 2 ^ (64 - k) < 2 ^ k * 2 ^ (64 - k) := Nat.mul_lt_mul_of_pos_right b3 (Nat.pow_pos (by omega))
    rw [e] at this
    rw [ec]
    omega
/-- The figures of what is divided, shifted. -/
theorem dv_fig {h l y : Int} {s : Nat} (hs : s ≤ 63) (h0 : 0 ≤ h) (hy : h < y) (hl : 0 ≤ l ∧ l < 18446744073709551616) (y1 : 9223372036854775808 ≤ y * 2 ^ s) (y2 : y * 2 ^ s < 18446744073709551616) :
    ∃ A B U L : Int, y * 2 ^ s = A * 4294967296 + B ∧ (IntKind.u64.wrap (y * 2 ^ s)).fdiv 4294967296 = A ∧ bits .and .u64 (IntKind.u64.wrap (y * 2 ^ s)) 4294967295 = B ∧
      bits .or .u64 (IntKind.u64.wrap (h * 2 ^ s)) (l.fdiv (2 ^ (64 - s))) = U ∧ IntKind.u64.wrap (l * 2 ^ s) = L ∧ (0 ≤ L ∧ L < 18446744073709551616) ∧ (0 ≤ U ∧ U < y * 2 ^ s) ∧ (0 ≤ B ∧ B < 4294967296) ∧ (2147483648 ≤ A ∧ A < 4294967296) ∧
      U * 18446744073709551616 + L = (h * 18446744073709551616 + l) * 2 ^ s := by
  have hp : (0 : Int) < 2 ^ s := Int.pow_pos (by decide)
  have hq : (0 : Int) < 2 ^ (64 - s) := Int.pow_pos (by decide)
  have hpq : (2 : Int) ^ (64 - s) * 2 ^ s = 18446744073709551616 := by rw [← Int.pow_add, show 64 - s + s = 64 by omega]; rfl
  have hh : h * 2 ^ s + 2 ^ s ≤ y * 2 ^ s := by
    have : (h + 1) * 2 ^ s ≤ y * 2 ^ s := Int.mul_le_mul_of_nonneg_right (by omega) (by omega)
    rw [Int.add_mul, Int.one_mul] at this
    exact this
  have hh0 : 0 ≤ h * 2 ^ s := Int.mul_nonneg h0 (by omega)
  have e := Int.mul_ediv_add_emod l (2 ^ (64 - s))
  have n1 := Int.emod_nonneg l (show (2 : Int) ^ (64 - s) ≠ 0 by omega)
  have n2 := Int.emod_lt_of_pos l hq
  have n3 : 0 ≤ l / 2 ^ (64 - s) := Int.ediv_nonneg hl.1 (by omega)
  have n4 : l / 2 ^ (64 - s) < 2 ^ s := by
    refine Int.ediv_lt_of_lt_mul hq ?_
    rw [Int.mul_comm, hpq]
    exact hl.2
  have n5 : l % 2 ^ (64 - s) * 2 ^ s < 18446744073709551616 := by rw [← hpq]; exact Int.mul_lt_mul_of_pos_right n2 hp
  have n6 : 0 ≤ l % 2 ^ (64 - s) * 2 ^ s := Int.mul_nonneg n1 (by omega)
  have e2 : l * 2 ^ s = l / 2 ^ (64 - s) * 18446744073709551616 + l % 2 ^ (64 - s) * 2 ^ s := by
    rw [← hpq, ← Int.mul_assoc, ← Int.add_mul, Int.mul_comm (l / _) _, e]
  have ew : IntKind.u64.wrap (l * 2 ^ s) = l % 2 ^ (64 - s) * 2 ^ s := by
    rw [IntKind.wrap_u64, e2]
    omega
  have eo : bits .or .u64 (h * 2 ^ s) (l / 2 ^ (64 - s)) = h * 2 ^ s + l / 2 ^ (64 - s) :=
    bits_join .u64 64 (by decide) wraps_u64 s _ _ hh0 (Int.mul_emod_left _ _) (by omega) n3 n4 (by omega)
  refine ⟨y * 2 ^ s / 4294967296, y * 2 ^ s % 4294967296, h * 2 ^ s + l / 2 ^ (64 - s), l % 2 ^ (64 - s) * 2 ^ s, by omega, ?_, ?_, ?_, ew, ⟨n6, n5⟩, by omega, by omega, by omega, ?_⟩
  · rw [wrapW (x := y * 2 ^ s) (by omega), Int.fdiv_eq_ediv_of_nonneg _ (by decide)]
  · rw [wrapW (x := y * 2 ^ s) (by omega)]
    exact bits_mask .u64 64 (by decide) wraps_u64 32 (by decide) _ (by omega) (by omega)
  · rw [wrapW (x := h * 2 ^ s) (by omega), Int.fdiv_eq_ediv_of_nonneg _ (by omega), eo]
  · rw [Int.add_mul _ _ (2 ^ s), e2, Int.add_mul, Int.mul_right_comm]
    omega
theorem dv_join {h l y U L : Int} {s : Nat} (h0 : 0 ≤ h) (hy : h < y) (_ : 0 ≤ l ∧ l < 18446744073709551616) (hL : 0 ≤ L ∧ L < 18446744073709551616) (hU : 0 ≤ U) (h2 : U < y * 2 ^ s) (y1 : 9223372036854775808 ≤ y * 2 ^ s) (y2 : y * 2 ^ s < 18446744073709551616) (e : U * 18446744073709551616 + L = (h * 18446744073709551616 + l) * 2 ^ s) :
    dvQ ((U * 4294967296 + L / 4294967296) / (y * 2 ^ s)) (((U * 4294967296 + L / 4294967296) % (y * 2 ^ s) * 4294967296 + L % 4294967296) / (y * 2 ^ s)) = dv0 h l y ∧
    (dvV (y * 2 ^ s) ((U * 4294967296 + L / 4294967296) % (y * 2 ^ s)) (L % 4294967296) (((U * 4294967296 + L / 4294967296) % (y * 2 ^ s) * 4294967296 + L % 4294967296) / (y * 2 ^ s))).fdiv (2 ^ s) = dv1 h l y := by
  have hp : (0 : Int) < 2 ^ s := Int.pow_pos (by decide)
  obtain ⟨a, b, hab⟩ : ∃ a b, y * 2 ^ s = a * 4294967296 + b ∧ (0 ≤ b ∧ b < 4294967296) ∧ 2147483648 ≤ a ∧ a < 4294967296 := ⟨y * 2 ^ s / 4294967296, y * 2 ^ s % 4294967296, by omega, by omega, by omega⟩
  have i1 : DvIn (y * 2 ^ s) a b U (L / 4294967296) := ⟨hab.1, hab.2.1, hab.2.2, ⟨hU, h2⟩, by omega⟩
  obtain ⟨_, m1, m2⟩ := dvV_eq i1
  have i2 : DvIn (y * 2 ^ s) a b ((U * 4294967296 + L / 4294967296) % (y * 2 ^ s)) (L % 4294967296) := ⟨hab.1, hab.2.1, hab.2.2, ⟨m1, m2⟩, by omega⟩
  obtain ⟨k0, k1, k2⟩ := dvV_eq i2
  have q1 := i1.q_nn; have q2 := i1.q_lt; have q3 := i2.q_nn; have q4 := i2.q_lt
  have e1 := Int.mul_ediv_add_emod (U * 4294967296 + L / 4294967296) (y * 2 ^ s)
  have e2 := Int.mul_ediv_add_emod ((U * 4294967296 + L / 4294967296) % (y * 2 ^ s) * 4294967296 + L % 4294967296) (y * 2 ^ s)
  rw [k0]
  unfold dvQ
  generalize ((U * 4294967296 + L / 4294967296) % (y * 2 ^ s) * 4294967296 + L % 4294967296) % (y * 2 ^ s) = R at *
  generalize ((U * 4294967296 + L / 4294967296) % (y * 2 ^ s) * 4294967296 + L % 4294967296) / (y * 2 ^ s) = P at *
  generalize (U * 4294967296 + L / 4294967296) % (y * 2 ^ s) = V at *
  generalize (U * 4294967296 + L / 4294967296) / (y * 2 ^ s) = Q at *
  rw [wrapW (x := Q * 4294967296) (by omega), wrapW (by omega), Int.fdiv_eq_ediv_of_nonneg _ (by omega)]
  have e3 : (h * 18446744073709551616 + l - (Q * 4294967296 + P) * y) * 2 ^ s = R := by
    rw [Int.sub_mul, ← e, Int.mul_assoc, Int.add_mul, Int.mul_right_comm, Int.mul_comm Q, Int.mul_comm P]
    omega
  have hy0 : 0 < y := by omega
  have e4 : 0 ≤ h * 18446744073709551616 + l - (Q * 4294967296 + P) * y := by
    rcases Int.lt_or_le (h * 18446744073709551616 + l - (Q * 4294967296 + P) * y) 0 with hn | hn
    · have := Int.mul_neg_of_neg_of_pos hn hp
      omega
    · exact hn
  have e5 : h * 18446744073709551616 + l - (Q * 4294967296 + P) * y < y := by
    rcases Int.lt_or_le (h * 18446744073709551616 + l - (Q * 4294967296 + P) * y) y with hn | hn
    · exact hn
    · have : y * 2 ^ s ≤ (h * 18446744073709551616 + l - (Q * 4294967296 + P) * y) * 2 ^ s := Int.mul_le_mul_of_nonneg_right hn (by omega)
      omega
  have e6 : R / 2 ^ s = h * 18446744073709551616 + l - (Q * 4294967296 + P) * y := by
    rw [← e3]
    exact Int.mul_ediv_cancel _ (by omega)
  rw [e6]
  unfold dv0 dv1
  have f1 := Int.mul_ediv_add_emod (h * 18446744073709551616 + l) y
  have f2 := Int.emod_nonneg (h * 18446744073709551616 + l) (show y ≠ 0 by omega)
  have f3 := Int.emod_lt_of_pos (h * 18446744073709551616 + l) hy0
  have f4 : (h * 18446744073709551616 + l) / y = Q * 4294967296 + P := by
    have : h * 18446744073709551616 + l = (h * 18446744073709551616 + l - (Q * 4294967296 + P) * y) + (Q * 4294967296 + P) * y := by omega
    rw [this, Int.add_mul_ediv_right _ _ (by omega), Int.ediv_eq_zero_of_lt e4 e5]
    omega
  refine ⟨f4.symm, ?_⟩
  rw [f4] at f1
  rw [Int.mul_comm] at f1
  omega
abbrev dvAns (h l y : Int) : AV := .tup [vu (dv0 h l y), vu (dv1 h l y)]
theorem dv_all {h l y : Int} (h0 : 0 ≤ h) (hy : h < y) (y0 : y < 18446744073709551616) (hl : 0 ≤ l) (hl2 : l < 18446744073709551616) :
    FSound Try.prog 73 noMem [vu h, vu l, vu y] (dvAns h l y) ⟨[], 99⟩ := by
  refine fsound (c := bodyOf Try.f73) (fun xs w => Try.call73 xs w) Try.func73 rfl ?_
  by_cases hz : h = 0
  · subst hz
    have hd : l / y ≤ l := Int.ediv_le_self _ hl
    have hd0 : 0 ≤ l / y := Int.ediv_nonneg hl (by omega)
    have e1 : IntKind.u64.wrap (l.tdiv y) = dv0 0 l y := by
      rw [Int.tdiv_eq_ediv_of_nonneg hl, wrapW (by omega)]
      unfold dv0
      rw [Int.zero_mul, Int.zero_add]
    have e2 : l.tmod y = dv1 0 l y := by
      rw [Int.tmod_eq_emod_of_nonneg hl]
      unfold dv1
      rw [Int.zero_mul, Int.zero_add]
    refine FO_ret (f := Try.f73) (c := bodyOf Try.f73) (cuts := dvC) (ns := []) (top := 99) (orc := [0, 0, 1]) hE_lz mixedV rfl rfl ((dv_zero 0 l y).trans ?_) rfl
    rw [e1, e2, decide_eq_false (show ¬ y ≤ 0 by omega), decide_eq_true (show ¬ y = 0 by omega), show (y == 0) = false from beq_false_of_ne (by omega)]
    rfl
  · obtain ⟨s, hs, hs63, y1, y2⟩ := lz_in (y := y) (by omega) y0
    obtain ⟨A, B, U, L, g1, g2, g3, g4, g5, g6, g7, g8, g9, g10⟩ := dv_fig (y := y) hs63 h0 hy ⟨hl, hl2⟩ y1 y2
    obtain ⟨j1, j2⟩ := dv_join h0 hy ⟨hl, hl2⟩ g6 g7.1 g7.2 y1 y2 g10
    have w1 : IntKind.u64.wrap (lz y) = s := by rw [hs]; exact wrapW (by omega)
    have w2 : IntKind.u64.wrap (64 - (s : Int)) = ((64 - s : Nat) : Int) := by rw [wrapW (by omega)]; omega
    have w3 : IntKind.u64.wrap (y * 2 ^ s) = y * 2 ^ s := wrapW (by omega)
    have t1 : L.fdiv 4294967296 = L / 4294967296 := Int.fdiv_eq_ediv_of_nonneg _ (by decide)
    have t2 : bits .and .u64 L 4294967295 = L % 4294967296 := bits_mask .u64 64 (by decide) wraps_u64 32 (by decide) _ (by omega) (by omega)
    have i1 : DvIn (y * 2 ^ s) A B U (L / 4294967296) := ⟨g1, g8, g9, g7, by omega⟩
    obtain ⟨p1, p2, p3, p4, p5, p6⟩ := dvP_in i1
    have hl1 := dv_loop1 i1 (e := L % 4294967296) (by omega) (s : Int) (by omega) 2 _ _ (by omega) p3 p6 p4.1 p4.2 p5 i1.first
    unfold dvRet at hl1
    rw [Int.toNat_natCast, Nat.min_eq_left (show s ≤ 64 by omega), j1, j2] at hl1
    refine Goes.gives (FO_head (f := Try.f73) (c := bodyOf Try.f73) (cuts := dvC) (ns := []) (top := 99) (orc := [0, 0, 0]) hE_lz mixedV rfl rfl ((dv_in h l y).trans ?_) rfl) hl1
    rw [w1, w2, Int.toNat_natCast, Int.toNat_natCast, Nat.min_eq_left (show s ≤ 64 by omega), Nat.min_eq_left (show 64 - s ≤ 64 by omega), g4, g5, g3, t1, t2, g2, p1, p2, w3,
      show (y == 0) = false from beq_false_of_ne (by omega), decide_eq_false (show ¬ y ≤ h by omega), show (h == 0) = false from beq_false_of_ne hz, decide_eq_true (show 0 ≤ y by omega), decide_eq_true (show y ≤ 18446744073709551615 by omega), decide_eq_true (show (0 : Int) ≤ s by omega),
      decide_eq_true (show (0 : Int) ≤ ((64 - s : Nat) : Int) by omega)]
    have e6 : decide (¬ (IntKind.u64.wrap (y * 2 ^ min s IntKind.u64.bits)).fdiv (2 ^ min (Int.toNat 32) IntKind.u64.bits) = 0) = true := by
      refine decide_eq_true ?_
      rw [show min s IntKind.u64.bits = s from Nat.min_eq_left (show s ≤ 64 by omega)]
      show ¬ (IntKind.u64.wrap (y * 2 ^ s)).fdiv 4294967296 = 0
      rw [g2]
      omega
    rw [e6]
    rfl
def e_dv : Spec := fun _ args => match args with
  | [.val (.int .u64 h), .val (.int .u64 l), .val (.int .u64 y)] => some (dvAns h l y, none, [decide (0 ≤ h), decide (h < y), decide (y < 18446744073709551616), decide (0 ≤ l), decide (l < 18446744073709551616)])
  | _ => none
theorem ok_dv : SpecOk Try.prog 73 e_dv := fun m args v mo bs h hb => by
  unfold e_dv at h
  split at h
  · cases h
    simp at hb
    exact lift_ground (dv_all hb.1 hb.2.1 hb.2.2.1 hb.2.2.2.1 hb.2.2.2.2) rfl rfl
  · cases h
def L_dv : List (FuncId × Spec) := [(73, e_dv)]
theorem hE_dv : ESound Try.prog (envOf L_dv) := env_cons ok_dv env_nil
end Go.Proofs.Ytanfjgkohhlcoaa
