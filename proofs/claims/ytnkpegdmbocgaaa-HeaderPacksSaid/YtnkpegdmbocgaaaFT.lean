/-
  A header's word as a sum; what is read from a word's fields.
-/
import Derived.Test.YtnkpegdmbocgaaaFS
namespace Go.Proofs.Ytnkpegdmbocgaaa
open Go Go.RowKit
theorem bits_get {w M : Int} {a s : Nat} (hw : 0 ≤ w ∧ w < 18446744073709551616) (hM : 0 ≤ M ∧ M < 18446744073709551616) (hM2 : M.toNat = (2 ^ s - 1) <<< a) : (bits .and .u64 w M) / 2 ^ a = w / 2 ^ a % 2 ^ s := by
  obtain ⟨x, rfl⟩ := Int.eq_ofNat_of_zero_le hw.1
  obtain ⟨y, rfl⟩ := Int.eq_ofNat_of_zero_le hM.1
  have e1 : (BitVec.ofInt 64 (x : Int)).toNat = x := by rw [BitVec.toNat_ofInt]; omega
  have e2 : (BitVec.ofInt 64 (y : Int)).toNat = y := by rw [BitVec.toNat_ofInt]; omega
  have hb : bits .and .u64 (x : Int) (y : Int) = IntKind.u64.wrap ((BitVec.ofInt 64 (x : Int) &&& BitVec.ofInt 64 (y : Int)).toNat : Int) := rfl
  have hle : x &&& y ≤ x := Nat.and_le_left
  rw [hb, BitVec.toNat_and, e1, e2, IntWalk.u64_in _ (by omega)]
  have hy : y = (2 ^ s - 1) <<< a := by simpa using hM2
  have hn : (x &&& y) / 2 ^ a = x / 2 ^ a % 2 ^ s := by
    rw [← Nat.shiftRight_eq_div_pow, Nat.shiftRight_and_distrib, hy, Nat.shiftLeft_shiftRight, Nat.and_two_pow_sub_one_eq_mod, Nat.shiftRight_eq_div_pow]
  have hp : ∀ k : Nat, ((2 ^ k : Nat) : Int) = (2 : Int) ^ k := fun k => by simp
  rw [← hp a, ← hp s]
  exact_mod_cast hn
theorem get_at {w M : Int} {a s : Nat} (hR : field_Right_0 a s = true) (hM : field_Mask_0 a s = M) (hM2 : M.toNat = (2 ^ s - 1) <<< a) (hMr : 0 ≤ M ∧ M < 18446744073709551616) (ha : a ≤ 64) (hw : 0 ≤ w ∧ w < 18446744073709551616) : field_Get_0 w a s = w / 2 ^ a % 2 ^ s := by
  unfold field_Get_0
  rw [hR, hM, Int.toNat_natCast, Nat.min_eq_left ha, Int.fdiv_eq_ediv_of_nonneg _ (by exact_mod_cast Nat.zero_le (2 ^ a))]
  simp only [Bool.not_true, cond_false]
  exact bits_get hw hMr hM2
section
variable {w : Int} (hw : 0 ≤ w ∧ w < 18446744073709551616)
include hw
theorem get_0 : field_Get_0 w 0 12 = w % 4096 := by
  have := get_at (M := 4095) (a := 0) (s := 12) (by kernel_rfl) (by kernel_rfl) (by decide) (by omega) (by omega) hw
  simpa using this
theorem get_1 : field_Get_0 w 12 12 = w / 4096 % 4096 := get_at (M := 16773120) (a := 12) (s := 12) (by kernel_rfl) (by kernel_rfl) (by decide) (by omega) (by omega) hw
theorem get_2 : field_Get_0 w 24 5 = w / 16777216 % 32 := get_at (M := 520093696) (a := 24) (s := 5) (by kernel_rfl) (by kernel_rfl) (by decide) (by omega) (by omega) hw
theorem get_3 : field_Get_0 w 29 3 = w / 536870912 % 8 := get_at (M := 3758096384) (a := 29) (s := 3) (by kernel_rfl) (by kernel_rfl) (by decide) (by omega) (by omega) hw
theorem get_4 : field_Get_0 w 32 1 = w / 4294967296 % 2 := get_at (M := 4294967296) (a := 32) (s := 1) (by kernel_rfl) (by kernel_rfl) (by decide) (by omega) (by omega) hw
theorem get_p : field_Get_0 w 0 40 = w % 1099511627776 := by
  have := get_at (M := 1099511627775) (a := 0) (s := 40) (by kernel_rfl) (by kernel_rfl) (by decide) (by omega) (by omega) hw
  simpa using this
end
def bI (b : Bool) : Int := bif b then 1 else 0
def pkI (p r s a : Int) (l : Bool) : Int := 4611686018427387904 + bI l * 4294967296 + a * 536870912 + s * 16777216 + r * 4096 + p
def inR (p r s a : Int) : Prop := (0 ≤ p ∧ p ≤ 4095) ∧ (0 ≤ r ∧ r ≤ 4095) ∧ (0 ≤ s ∧ s ≤ 31) ∧ 0 ≤ a ∧ a ≤ 7
theorem bI_r (l : Bool) : 0 ≤ bI l ∧ bI l ≤ 1 := by cases l <;> decide
theorem notWithin (n m : Int) : (!header_within_0 n m) = (bif decide (n < 0) then true else decide (m < n)) := by
  unfold header_within_0
  by_cases h : n < 0
  · rw [decide_eq_true h, decide_eq_false (show ¬ 0 ≤ n by omega)]; rfl
  · rw [decide_eq_false h, decide_eq_true (show 0 ≤ n by omega)]
    by_cases h' : m < n
    · rw [decide_eq_true h', decide_eq_false (show ¬ n ≤ m by omega)]; rfl
    · rw [decide_eq_false h', decide_eq_true (show n ≤ m by omega)]; rfl
theorem check_eq (p r s a : Int) (l : Bool) : header_Check_0 p r s a l = haymowref12_Check_0 p r s a l := by
  unfold header_Check_0 haymowref12_Check_0
  rw [notWithin, notWithin, notWithin, notWithin]
  cases decide (p < 0) <;> cases decide (4095 < p) <;> cases decide (r < 0) <;> cases decide (4095 < r) <;> rfl
theorem check_ok {p r s a : Int} (l : Bool) (h : inR p r s a) : haymowref12_Check_0 p r s a l = 0 := by
  obtain ⟨h1, h2, h3, h4⟩ := h
  unfold haymowref12_Check_0
  rw [decide_eq_false (show ¬ p < 0 by omega), decide_eq_false (show ¬ 4095 < p by omega), decide_eq_false (show ¬ r < 0 by omega), decide_eq_false (show ¬ 4095 < r by omega), decide_eq_false (show ¬ s < 0 by omega), decide_eq_false (show ¬ 31 < s by omega), decide_eq_false (show ¬ a < 0 by omega), decide_eq_false (show ¬ 7 < a by omega)]
  rfl
theorem check_in {p r s a : Int} {l : Bool} (h : haymowref12_Check_0 p r s a l = 0) : inR p r s a := by
  unfold haymowref12_Check_0 at h
  unfold inR
  simp only [Bool.cond_eq_ite, decide_eq_true_eq] at h
  repeat' split at h
  all_goals first | (cases h; done) | (simp_all; done) | (simp_all; omega)
theorem refpack {p r s a : Int} (l : Bool) (h : inR p r s a) : haymowref12_Pack_0 p r s a l = pkI p r s a l := by
  obtain ⟨h1, h2, h3, h4⟩ := h
  unfold haymowref12_Pack_0 pkI
  have b := bI_r l
  rw [IntWalk.u64_in a (by omega), IntWalk.u64_in s (by omega), IntWalk.u64_in r (by omega), IntWalk.u64_in p (by omega), IntWalk.u64_in (a * 536870912) (by omega), IntWalk.u64_in (s * 16777216) (by omega), IntWalk.u64_in (r * 4096) (by omega)]
  have key : ∀ K : Int, 0 ≤ K → K ≤ 4611686022722355200 → IntKind.u64.wrap (IntKind.u64.wrap (IntKind.u64.wrap (IntKind.u64.wrap (K + a * 536870912) + s * 16777216) + r * 4096) + p) = K + a * 536870912 + s * 16777216 + r * 4096 + p := fun K k1 k2 => by
    rw [IntWalk.u64_in (K + a * 536870912) (by omega), IntWalk.u64_in (K + a * 536870912 + s * 16777216) (by omega), IntWalk.u64_in (K + a * 536870912 + s * 16777216 + r * 4096) (by omega), IntWalk.u64_in _ (by omega)]
  rw [key _ (by decide) (by decide), key _ (by decide) (by decide)]
  cases l <;> simp only [bI, cond_true, cond_false] <;> omega
theorem hdIn_ok {p r s a e : Int} (h : inR p r s a) (he : 0 ≤ e ∧ e < 2) : hdIn (IntKind.u64.wrap p) (IntKind.u64.wrap r) (IntKind.u64.wrap s) (IntKind.u64.wrap a) e 1 = true := by
  obtain ⟨h1, h2, h3, h4⟩ := h
  rw [IntWalk.u64_in a (by omega), IntWalk.u64_in s (by omega), IntWalk.u64_in r (by omega), IntWalk.u64_in p (by omega)]
  unfold hdIn
  rw [decide_eq_true (show 0 ≤ p ∧ p < 4096 by omega), decide_eq_true (show 0 ≤ r ∧ r < 4096 by omega), decide_eq_true (show 0 ≤ s ∧ s < 32 by omega), decide_eq_true (show 0 ≤ a ∧ a < 8 by omega), decide_eq_true he]
  rfl
theorem pack_ok {p r s a : Int} (l : Bool) (h : inR p r s a) : header_Pack_0 p r s a l = pkI p r s a l ∧ header_Pack_1 p r s a l = 0 ∧ c_header_Pack p r s a l = true := by
  have hc : header_Check_0 p r s a l = 0 := by rw [check_eq, check_ok l h]
  unfold header_Pack_0 header_Pack_1 c_header_Pack
  rw [hc, hdIn_ok h (by decide), hdIn_ok h (by decide)]
  obtain ⟨h1, h2, h3, h4⟩ := h
  rw [IntWalk.u64_in a (by omega), IntWalk.u64_in s (by omega), IntWalk.u64_in r (by omega), IntWalk.u64_in p (by omega)]
  refine ⟨?_, rfl, by cases l <;> rfl⟩
  simp only [bne_self_eq_false, cond_false]
  cases l <;> simp only [cond_true, cond_false] <;> unfold hdW pkI bI <;> simp only [cond_true, cond_false] <;> omega
theorem pack_no {p r s a : Int} {l : Bool} (h : haymowref12_Check_0 p r s a l ≠ 0) : header_Pack_0 p r s a l = 0 ∧ header_Pack_1 p r s a l = haymowref12_Check_0 p r s a l ∧ c_header_Pack p r s a l = true := by
  unfold header_Pack_0 header_Pack_1 c_header_Pack
  rw [check_eq, show (haymowref12_Check_0 p r s a l != 0) = true by simpa using h]
  exact ⟨rfl, rfl, rfl⟩
/-- A word's parts. -/
def wp (w : Int) : Int := w % 4096
def wr' (w : Int) : Int := w / 4096 % 4096
def ws (w : Int) : Int := w / 16777216 % 32
def wa (w : Int) : Int := w / 536870912 % 8
def wl (w : Int) : Bool := w / 4294967296 % 2 == 1
theorem parts_in {w : Int} (hw : 0 ≤ w ∧ w < 18446744073709551616) : inR (wp w) (wr' w) (ws w) (wa w) := by
  unfold inR wp wr' ws wa
  omega
/-- Is a word a header's? -/
def isH (w : Int) : Bool := pkI (wp w) (wr' w) (ws w) (wa w) (wl w) == w
theorem refUnp {w : Int} (hw : 0 ≤ w ∧ w < 18446744073709551616) : haymowref12_Unpack_0 w = (bif isH w then wp w else 0) ∧ haymowref12_Unpack_1 w = (bif isH w then wr' w else 0) ∧ haymowref12_Unpack_2 w = (bif isH w then ws w else 0) ∧ haymowref12_Unpack_3 w = (bif isH w then wa w else 0) ∧ haymowref12_Unpack_4 w = (bif isH w then wl w else false) ∧ haymowref12_Unpack_5 w = isH w := by
  have e0 : IntKind.i64.wrap (w.tmod 4096) = wp w := by
    rw [Int.tmod_eq_emod_of_nonneg hw.1, IntWalk.i64_in _ (by omega)]; rfl
  have e1 : IntKind.i64.wrap ((IntKind.u64.wrap (w.tdiv 4096)).tmod 4096) = wr' w := by
    rw [Int.tdiv_eq_ediv_of_nonneg hw.1, IntWalk.u64_in _ (by omega), Int.tmod_eq_emod_of_nonneg (by omega), IntWalk.i64_in _ (by omega)]; rfl
  have e2 : IntKind.i64.wrap ((IntKind.u64.wrap (w.tdiv 16777216)).tmod 32) = ws w := by
    rw [Int.tdiv_eq_ediv_of_nonneg hw.1, IntWalk.u64_in _ (by omega), Int.tmod_eq_emod_of_nonneg (by omega), IntWalk.i64_in _ (by omega)]; rfl
  have e3 : IntKind.i64.wrap ((IntKind.u64.wrap (w.tdiv 536870912)).tmod 8) = wa w := by
    rw [Int.tdiv_eq_ediv_of_nonneg hw.1, IntWalk.u64_in _ (by omega), Int.tmod_eq_emod_of_nonneg (by omega), IntWalk.i64_in _ (by omega)]; rfl
  have e4 : ((IntKind.u64.wrap (w.tdiv 4294967296)).tmod 2 == 1) = wl w := by
    rw [Int.tdiv_eq_ediv_of_nonneg hw.1, IntWalk.u64_in _ (by omega), Int.tmod_eq_emod_of_nonneg (by omega)]; rfl
  have hne : (pkI (wp w) (wr' w) (ws w) (wa w) (wl w) != w) = !isH w := rfl
  unfold haymowref12_Unpack_0 haymowref12_Unpack_1 haymowref12_Unpack_2 haymowref12_Unpack_3 haymowref12_Unpack_4 haymowref12_Unpack_5
  rw [e0, e1, e2, e3, e4, refpack _ (parts_in hw), hne]
  cases isH w <;> exact ⟨rfl, rfl, rfl, rfl, rfl, rfl⟩
theorem hdUnp {w : Int} (hw : 0 ≤ w ∧ w < 18446744073709551616) : header_Unpack_0 w = (bif isH w then wp w else 0) ∧ header_Unpack_1 w = (bif isH w then wr' w else 0) ∧ header_Unpack_2 w = (bif isH w then ws w else 0) ∧ header_Unpack_3 w = (bif isH w then wa w else 0) ∧ header_Unpack_4 w = (bif isH w then wl w else false) ∧ header_Unpack_5 w = (bif isH w then 0 else 5) ∧ c_header_Unpack w = true := by
  have e0 : IntKind.i64.wrap (field_Get_0 w 0 12) = wp w := by
    rw [get_0 hw, IntWalk.i64_in _ (by omega)]; rfl
  have e1 : IntKind.i64.wrap (field_Get_0 w 12 12) = wr' w := by
    rw [get_1 hw, IntWalk.i64_in _ (by omega)]; rfl
  have e2 : IntKind.i64.wrap (field_Get_0 w 24 5) = ws w := by
    rw [get_2 hw, IntWalk.i64_in _ (by omega)]; rfl
  have e3 : IntKind.i64.wrap (field_Get_0 w 29 3) = wa w := by
    rw [get_3 hw, IntWalk.i64_in _ (by omega)]; rfl
  have e4 : (IntKind.i64.wrap (field_Get_0 w 32 1) == 1) = wl w := by
    rw [get_4 hw, IntWalk.i64_in _ (by omega)]; rfl
  obtain ⟨q1, q2, q3⟩ := pack_ok (wl w) (parts_in hw)
  have hne : (pkI (wp w) (wr' w) (ws w) (wa w) (wl w) != w) = !isH w := rfl
  unfold header_Unpack_0 header_Unpack_1 header_Unpack_2 header_Unpack_3 header_Unpack_4 header_Unpack_5 c_header_Unpack
  rw [e0, e1, e2, e3, e4, q1, q2, q3, hne]
  cases isH w <;> exact ⟨rfl, rfl, rfl, rfl, rfl, rfl, rfl⟩
theorem pk_parts {p r s a : Int} {l : Bool} (h : inR p r s a) : (0 ≤ pkI p r s a l ∧ pkI p r s a l < 18446744073709551616) ∧ wp (pkI p r s a l) = p ∧ wr' (pkI p r s a l) = r ∧ ws (pkI p r s a l) = s ∧ wa (pkI p r s a l) = a ∧ wl (pkI p r s a l) = l ∧ isH (pkI p r s a l) = true := by
  have b := bI_r l
  have hl : (bI l == 1) = l := by cases l <;> rfl
  obtain ⟨h1, h2, h3, h4⟩ := h
  have e0 : wp (pkI p r s a l) = p := by unfold wp pkI; omega
  have e1 : wr' (pkI p r s a l) = r := by unfold wr' pkI; omega
  have e2 : ws (pkI p r s a l) = s := by unfold ws pkI; omega
  have e3 : wa (pkI p r s a l) = a := by unfold wa pkI; omega
  have e4 : wl (pkI p r s a l) = l := by
    unfold wl
    rw [show pkI p r s a l / 4294967296 % 2 = bI l by unfold pkI; omega]
    exact hl
  refine ⟨by unfold pkI; omega, e0, e1, e2, e3, e4, ?_⟩
  unfold isH
  rw [e0, e1, e2, e3, e4]
  simp
def up7 (a : Int) : Int := bif decide (a < 7) then a + 1 else a
theorem up7_min {a : Int} (h : 0 ≤ a ∧ a ≤ 7) : min (IntKind.i64.wrap (a + 1)) 7 = up7 a ∧ (0 ≤ up7 a ∧ up7 a ≤ 7) := by
  rw [IntWalk.i64_in _ (by omega)]
  unfold up7
  by_cases c : a < 7
  · rw [decide_eq_true c, cond_true]; omega
  · rw [decide_eq_false c, cond_false]; omega
theorem refOld {a : Int} (p r s : Int) (l : Bool) (h : 0 ≤ a ∧ a ≤ 7) : haymowref12_Older_0 p r s a l = up7 a := by
  unfold haymowref12_Older_0 up7
  by_cases c : a < 7
  · rw [decide_eq_true c, cond_true, cond_true, IntWalk.i64_in _ (by omega)]
  · rw [decide_eq_false c]; rfl
theorem hdOld {w : Int} (hw : 0 ≤ w ∧ w < 18446744073709551616) : header_Older_0 w = (bif isH w then pkI (wp w) (wr' w) (ws w) (up7 (wa w)) (wl w) else 0) ∧ header_Older_1 w = (bif isH w then 0 else 5) ∧ c_header_Older w = true := by
  obtain ⟨u0, u1, u2, u3, u4, u5, u6⟩ := hdUnp hw
  obtain ⟨h1, h2, h3, h4⟩ := parts_in hw
  unfold header_Older_0 header_Older_1 c_header_Older
  rw [u0, u1, u2, u3, u4, u5, u6]
  cases isH w with
  | false => exact ⟨rfl, rfl, rfl⟩
  | true =>
    simp only [cond_true]
    obtain ⟨m1, m2⟩ := up7_min h4
    obtain ⟨q1, q2, q3⟩ := pack_ok (wl w) (show inR (wp w) (wr' w) (ws w) (up7 (wa w)) from ⟨h1, h2, h3, m2⟩)
    rw [m1, q1, q2, q3]
    exact ⟨rfl, rfl, rfl⟩
end Go.Proofs.Ytnkpegdmbocgaaa
