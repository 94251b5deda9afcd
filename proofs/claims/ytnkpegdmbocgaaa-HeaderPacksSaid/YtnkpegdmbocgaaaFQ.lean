/-
  A header's word: field by field.
-/
import Derived.Test.YtnkpegdmbocgaaaFP
import Derived.Test.YtnkpegdmbocgaaaCL
namespace Go.Proofs.Ytnkpegdmbocgaaa
open Go Go.RowKit
theorem put_at {w n M : Int} {a s : Nat} (hR : field_Right_0 a s = true) (hM : field_Mask_0 a s = M) (hM2 : M.toNat = (2 ^ s - 1) <<< a) (hMr : 0 ≤ M ∧ M < 18446744073709551616) (ha : a ≤ 64) (_ : s < 64) (hc : c_field_Mask a s = true)
    (hw : 0 ≤ w ∧ w < 2 ^ a) (hw2 : w < 18446744073709551616) (hn : 0 ≤ n ∧ n < 2 ^ s) (hn2 : n < 18446744073709551616) (hsum : n * 2 ^ a + w < 18446744073709551616) : field_Put_0 w a s n = n * 2 ^ a + w ∧ field_Put_1 w a s n = 0 ∧ c_field_Put w a s n = true := by
  have hb : ¬ (s : Int) < Int.ofNat (Lib.bitLen n.toNat) := by
    have h1 := bl_gt n.toNat s (by omega)
    have hp : ((2 ^ s : Nat) : Int) = (2 : Int) ^ s := by simp
    have h2 : ¬ 2 ^ s ≤ n.toNat := by omega
    have h3 : ¬ s < Lib.bitLen n.toNat := fun h => h2 (h1.1 h)
    simp
    omega
  have hp : ((2 ^ a : Nat) : Int) = (2 : Int) ^ a := by simp
  have hk : bits .andNot .u64 w M = w := bits_keep ⟨hw.1, hw2⟩ hMr (by rw [hM2]; exact and_shift _ _ _ (by omega))
  have hpn : 0 ≤ n * 2 ^ a := Int.mul_nonneg hn.1 (by omega)
  unfold field_Put_0 field_Put_1 c_field_Put
  rw [hR, hM, hc, decide_eq_false hb, hk, Int.toNat_natCast, Nat.min_eq_left ha, IntWalk.u64_in (n * 2 ^ a) (by omega), bits_sum hw hn.1 hsum, decide_eq_true hn.1, decide_eq_true (show n ≤ 18446744073709551615 by omega), decide_eq_true (show (0 : Int) ≤ (a : Int) by omega)]
  exact ⟨rfl, rfl, rfl⟩
theorem put_0 {n : Int} (hn : 0 ≤ n ∧ n < 4096) : field_Put_0 0 0 12 n = n ∧ field_Put_1 0 0 12 n = 0 ∧ c_field_Put 0 0 12 n = true := by
  have h := put_at (w := 0) (n := n) (M := 4095) (a := 0) (s := 12) (by kernel_rfl) (by kernel_rfl) (by decide) (by omega) (by omega) (by omega) (by kernel_rfl) (by omega) (by omega) (by omega) (by omega) (by omega)
  rw [show n * 2 ^ 0 + 0 = n by omega] at h
  exact h
theorem put_1 {w n : Int} (hw : 0 ≤ w ∧ w < 4096) (hn : 0 ≤ n ∧ n < 4096) : field_Put_0 w 12 12 n = n * 4096 + w ∧ field_Put_1 w 12 12 n = 0 ∧ c_field_Put w 12 12 n = true :=
  put_at (M := 16773120) (a := 12) (s := 12) (by kernel_rfl) (by kernel_rfl) (by decide) (by omega) (by omega) (by omega) (by kernel_rfl) (by omega) (by omega) (by omega) (by omega) (by omega)
theorem put_2 {w n : Int} (hw : 0 ≤ w ∧ w < 16777216) (hn : 0 ≤ n ∧ n < 32) : field_Put_0 w 24 5 n = n * 16777216 + w ∧ field_Put_1 w 24 5 n = 0 ∧ c_field_Put w 24 5 n = true :=
  put_at (M := 520093696) (a := 24) (s := 5) (by kernel_rfl) (by kernel_rfl) (by decide) (by omega) (by omega) (by omega) (by kernel_rfl) (by omega) (by omega) (by omega) (by omega) (by omega)
theorem put_3 {w n : Int} (hw : 0 ≤ w ∧ w < 536870912) (hn : 0 ≤ n ∧ n < 8) : field_Put_0 w 29 3 n = n * 536870912 + w ∧ field_Put_1 w 29 3 n = 0 ∧ c_field_Put w 29 3 n = true :=
  put_at (M := 3758096384) (a := 29) (s := 3) (by kernel_rfl) (by kernel_rfl) (by decide) (by omega) (by omega) (by omega) (by kernel_rfl) (by omega) (by omega) (by omega) (by omega) (by omega)
theorem put_4 {w n : Int} (hw : 0 ≤ w ∧ w < 4294967296) (hn : 0 ≤ n ∧ n < 2) : field_Put_0 w 32 1 n = n * 4294967296 + w ∧ field_Put_1 w 32 1 n = 0 ∧ c_field_Put w 32 1 n = true :=
  put_at (M := 4294967296) (a := 32) (s := 1) (by kernel_rfl) (by kernel_rfl) (by decide) (by omega) (by omega) (by omega) (by kernel_rfl) (by omega) (by omega) (by omega) (by omega) (by omega)
theorem put_5 {w n : Int} (hw : 0 ≤ w ∧ w < 4611686018427387904) (hn : 0 ≤ n ∧ n < 2) : field_Put_0 w 62 1 n = n * 4611686018427387904 + w ∧ field_Put_1 w 62 1 n = 0 ∧ c_field_Put w 62 1 n = true :=
  put_at (M := 4611686018427387904) (a := 62) (s := 1) (by kernel_rfl) (by kernel_rfl) (by decide) (by omega) (by omega) (by omega) (by kernel_rfl) (by omega) (by omega) (by omega) (by omega) (by omega)
def e_P (p0 p1 : Int → Int → Int → Int → Int) (pc : Int → Int → Int → Int → Bool) : Spec := fun _ args => match args with
  | [.val (.int .u64 w_), .agg [.val (.int .i64 f_0), .val (.int .i64 f_1)], .val (.int .u64 n_)] => some (.tup [vu (p0 w_ f_0 f_1 n_), vi (p1 w_ f_0 f_1 n_)], none, [pc w_ f_0 f_1 n_])
  | _ => none
theorem ok_P : SpecOk Try.prog 61 (e_P field_Put_0 field_Put_1 c_field_Put) := ok_field_Put
def L_P (p0 p1 : Int → Int → Int → Int → Int) (pc : Int → Int → Int → Int → Bool) : List (FuncId × Spec) := (61, e_P p0 p1 pc) :: L_apart
theorem hE_P : ESound Try.prog (envOf (L_P field_Put_0 field_Put_1 c_field_Put)) := env_cons ok_P hE_apart
theorem pk_run (p0 p1 : Int → Int → Int → Int → Int) (pc : Int → Int → Int → Int → Bool) (nn nn' : Bool) (cap cap' : Option Nat) (a b c d e f : Int) : F_ Try.prog (L_P p0 p1 pc) Try.f53 [] [] 999 [.sl nn 0 2 0 1 6 cap, .sl nn' 1 1 0 1 6 cap'] ⟨[(0, some ⟨false, false, hdRows⟩), (1, some ⟨false, false, .cells [vu a, vu b, vu c, vu d, vu e, vu f]⟩)], 2⟩ =
    bif p1 0 0 12 a != 0 then some (.ret (.tup [vu 0, vi (p1 0 0 12 a)]) ⟨[], 999⟩ (bif pc 0 0 12 a then true else false)) else bif p1 (p0 0 0 12 a) 12 12 b != 0 then some (.ret (.tup [vu 0, vi (p1 (p0 0 0 12 a) 12 12 b)]) ⟨[], 999⟩ (bif pc 0 0 12 a then bif pc (p0 0 0 12 a) 12 12 b then true else false else false)) else bif p1 (p0 (p0 0 0 12 a) 12 12 b) 24 5 c != 0 then some (.ret (.tup [vu 0, vi (p1 (p0 (p0 0 0 12 a) 12 12 b) 24 5 c)]) ⟨[], 999⟩ (bif pc 0 0 12 a then bif pc (p0 0 0 12 a) 12 12 b then bif pc (p0 (p0 0 0 12 a) 12 12 b) 24 5 c then true else false else false else false)) else bif p1 (p0 (p0 (p0 0 0 12 a) 12 12 b) 24 5 c) 29 3 d != 0 then some (.ret (.tup [vu 0, vi (p1 (p0 (p0 (p0 0 0 12 a) 12 12 b) 24 5 c) 29 3 d)]) ⟨[], 999⟩ (bif pc 0 0 12 a then bif pc (p0 0 0 12 a) 12 12 b then bif pc (p0 (p0 0 0 12 a) 12 12 b) 24 5 c then bif pc (p0 (p0 (p0 0 0 12 a) 12 12 b) 24 5 c) 29 3 d then true else false else false else false else false)) else bif p1 (p0 (p0 (p0 (p0 0 0 12 a) 12 12 b) 24 5 c) 29 3 d) 32 1 e != 0 then some (.ret (.tup [vu 0, vi (p1 (p0 (p0 (p0 (p0 0 0 12 a) 12 12 b) 24 5 c) 29 3 d) 32 1 e)]) ⟨[], 999⟩ (bif pc 0 0 12 a then bif pc (p0 0 0 12 a) 12 12 b then bif pc (p0 (p0 0 0 12 a) 12 12 b) 24 5 c then bif pc (p0 (p0 (p0 0 0 12 a) 12 12 b) 24 5 c) 29 3 d then bif pc (p0 (p0 (p0 (p0 0 0 12 a) 12 12 b) 24 5 c) 29 3 d) 32 1 e then true else false else false else false else false else false)) else bif p1 (p0 (p0 (p0 (p0 (p0 0 0 12 a) 12 12 b) 24 5 c) 29 3 d) 32 1 e) 62 1 f != 0 then some (.ret (.tup [vu 0, vi (p1 (p0 (p0 (p0 (p0 (p0 0 0 12 a) 12 12 b) 24 5 c) 29 3 d) 32 1 e) 62 1 f)]) ⟨[], 999⟩ (bif pc 0 0 12 a then bif pc (p0 0 0 12 a) 12 12 b then bif pc (p0 (p0 0 0 12 a) 12 12 b) 24 5 c then bif pc (p0 (p0 (p0 0 0 12 a) 12 12 b) 24 5 c) 29 3 d then bif pc (p0 (p0 (p0 (p0 0 0 12 a) 12 12 b) 24 5 c) 29 3 d) 32 1 e then bif pc (p0 (p0 (p0 (p0 (p0 0 0 12 a) 12 12 b) 24 5 c) 29 3 d) 32 1 e) 62 1 f then true else false else false else false else false else false else false)) else some (.ret (.tup [vu (p0 (p0 (p0 (p0 (p0 (p0 0 0 12 a) 12 12 b) 24 5 c) 29 3 d) 32 1 e) 62 1 f), vi 0]) ⟨[], 999⟩ (bif pc 0 0 12 a then bif pc (p0 0 0 12 a) 12 12 b then bif pc (p0 (p0 0 0 12 a) 12 12 b) 24 5 c then bif pc (p0 (p0 (p0 0 0 12 a) 12 12 b) 24 5 c) 29 3 d then bif pc (p0 (p0 (p0 (p0 0 0 12 a) 12 12 b) 24 5 c) 29 3 d) 32 1 e then bif pc (p0 (p0 (p0 (p0 (p0 0 0 12 a) 12 12 b) 24 5 c) 29 3 d) 32 1 e) 62 1 f then true else false else false else false else false else false else false)) := by kernel_rfl
def hdW (a b c d e f : Int) : Int := f * 4611686018427387904 + (e * 4294967296 + (d * 536870912 + (c * 16777216 + (b * 4096 + a))))
def hdIn (a b c d e f : Int) : Bool := decide (0 ≤ a ∧ a < 4096) && (decide (0 ≤ b ∧ b < 4096) && (decide (0 ≤ c ∧ c < 32) && (decide (0 ≤ d ∧ d < 8) && (decide (0 ≤ e ∧ e < 2) && decide (0 ≤ f ∧ f < 2)))))
theorem pk_ok (nn nn' : Bool) (cap cap' : Option Nat) (a b c d e f : Int) (h : hdIn a b c d e f = true) : F_ Try.prog (L_P field_Put_0 field_Put_1 c_field_Put) Try.f53 [] [] 999 [.sl nn 0 2 0 1 6 cap, .sl nn' 1 1 0 1 6 cap'] ⟨[(0, some ⟨false, false, hdRows⟩), (1, some ⟨false, false, .cells [vu a, vu b, vu c, vu d, vu e, vu f]⟩)], 2⟩ = some (.ret (.tup [vu (hdW a b c d e f), vi 0]) ⟨[], 999⟩ true) := by
  unfold hdIn at h
  simp only [Bool.and_eq_true, decide_eq_true_eq] at h
  obtain ⟨h0, h1, h2, h3, h4, h5⟩ := h
  obtain ⟨a1, a2, a3⟩ := put_0 h0
  obtain ⟨b1, b2, b3⟩ := put_1 (w := a) h0 h1
  obtain ⟨c1, c2, c3⟩ := put_2 (w := b * 4096 + a) (by omega) h2
  obtain ⟨d1, d2, d3⟩ := put_3 (w := c * 16777216 + (b * 4096 + a)) (by omega) h3
  obtain ⟨e1, e2, e3⟩ := put_4 (w := d * 536870912 + (c * 16777216 + (b * 4096 + a))) (by omega) h4
  obtain ⟨f1, f2, f3⟩ := put_5 (w := e * 4294967296 + (d * 536870912 + (c * 16777216 + (b * 4096 + a)))) (by omega) h5
  rw [pk_run]
  simp only [a1, a2, a3, b1, b2, b3, c1, c2, c3, d1, d2, d3, e1, e2, e3, f1, f2, f3, bne_self_eq_false, cond_false, cond_true]
  rfl
def e_fpack : Spec := fun m args => match args with
  | [.sl nn l 2 0 1 6 cap, .sl nn' l' 1 0 1 6 cap'] => match look m.bl l, look m.bl l' with
    | some ⟨_, _, .rows [.ints .i64 [0, 12, 24, 29, 32, 62], .ints .i64 [12, 12, 5, 3, 1, 1]]⟩, some ⟨_, _, .cells [.val (.int .u64 a), .val (.int .u64 b), .val (.int .u64 c), .val (.int .u64 d), .val (.int .u64 e), .val (.int .u64 f)]⟩ => some (.tup [vu (hdW a b c d e f), vi 0], none, [hdIn a b c d e f])
    | _, _ => none
  | _ => none
theorem ok_fpack : SpecOk Try.prog 53 e_fpack := fun m args v mo bs h hb => by
  unfold e_fpack at h
  split at h
  · rename_i nn l cap nn' l' cap'
    split at h
    · rename_i wr op wr' op' a b c d e f hl hl'
      cases h
      simp only [List.all_cons, List.all_nil, id, Bool.and_true] at hb
      exact lift_two hl hl' rfl rfl (fsound (c := bodyOf Try.f53) (fun xs w => Try.call53 xs w) Try.func53 rfl (F_ret hE_P mixed rfl rfl (pk_ok nn nn' cap cap' a b c d e f hb))) rfl
    · cases h
  · cases h
def L_fpack : List (FuncId × Spec) := (53, e_fpack) :: L_apart
theorem hE_fpack : ESound Try.prog (envOf L_fpack) := env_cons ok_fpack hE_apart
end Go.Proofs.Ytnkpegdmbocgaaa
