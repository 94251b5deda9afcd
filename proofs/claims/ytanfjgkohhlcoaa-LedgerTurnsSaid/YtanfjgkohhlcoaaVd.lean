/-
  math/bits.Div64: what it hands back: the quotient and the rest of two words by one.
-/
import Derived.IntWalk
import Derived.Lib.EndianBits
import Derived.Test.YtanfjgkohhlcoaaVm
import Derived.Test.YtanfjgkohhlcoaaLyE
import Derived.Test.YtanfjgkohhlcoaaExO
import Derived.Test.YtanfjgkohhlcoaaBase
import Derived.Test.YtanfjgkohhlcoaaEx14
namespace Go.Proofs.Ytanfjgkohhlcoaa
open Go Go.RowKit Go.Shelf
theorem mixedV : MixedOk Try.prog := by unfold MixedOk; kernel_rfl
def lz (y : Int) : Int := 64 - (Lib.bitLen y.toNat : Int)
def e_lz : Spec := fun _ args => match args with
  | [.val (.int .u64 x)] => some (vi (lz x), none, [decide (0 ≤ x), decide (x ≤ 18446744073709551615)])
  | _ => none
theorem ok_lz : SpecOk Try.prog 85 e_lz := fun m args v mo bs h hb => by
  unfold e_lz at h
  split at h
  · cases h
    simp at hb
    exact calls_int (fun xs w => Try.call85 xs w) fun w => Any.bits_LeadingZeros64 Try.lays134 _ w hb.1 hb.2
  · cases h
def L_lz : List (FuncId × Spec) := [(85, e_lz)]
theorem hE_lz : ESound Try.prog (envOf L_lz) := env_cons ok_lz env_nil
def dvC : List Cut := [(2, [2, 8, 9, 10, 11, 13, 14, 15, 16, 17, 18], [], 0)]
def dvTm (y s a b u d e q r : Int) : List AV := [.unk, .unk, vu y, .unk, .unk, .unk, .unk, .unk, vu s, vu a, vu b, vu u, .unk, vu d, vu e, vu q, vu r] ++ List.replicate 118 .unk
def dvTn (y s a b u d e q r v p : Int) : List AV := [.unk, .unk, vu y, .unk, .unk, .unk, .unk, .unk, vu s, vu a, vu b, vu u, .unk, vu d, vu e, vu q, vu r, vu v, vu p] ++ List.replicate 116 .unk
-- values between
def dvV (y u d q : Int) : Int := IntKind.u64.wrap (IntKind.u64.wrap (IntKind.u64.wrap (u * 4294967296) + d) - IntKind.u64.wrap (q * y))
def dvP (a v : Int) : Int := IntKind.u64.wrap (v.tdiv a)
def dvR (a v : Int) : Int := IntKind.u64.wrap (v - IntKind.u64.wrap (dvP a v * a))
def dvT (b r d q : Int) : Bool := bif decide (4294967296 ≤ q) then true else decide (IntKind.u64.wrap (IntKind.u64.wrap (4294967296 * r) + d) < IntKind.u64.wrap (q * b))
def dvQ (q p : Int) : Int := IntKind.u64.wrap (IntKind.u64.wrap (q * 4294967296) + p)
abbrev dvRet (y s v e q p : Int) : AV := .tup [vu (dvQ q p), vu ((dvV y v e p).fdiv (2 ^ min s.toNat 64))]
theorem dv_in (hi lo y : Int) : FO_ Try.prog L_lz Try.f73 dvC [] 99 [0, 0, 0] [vu hi, vu lo, vu y] noMem =
    some (.head (hd Try.f73 0) (dvTm (IntKind.u64.wrap (y * 2 ^ min (IntKind.u64.wrap (lz y)).toNat 64)) (IntKind.u64.wrap (lz y))
      ((IntKind.u64.wrap (y * 2 ^ min (IntKind.u64.wrap (lz y)).toNat 64)).fdiv 4294967296) (bits .and .u64 (IntKind.u64.wrap (y * 2 ^ min (IntKind.u64.wrap (lz y)).toNat 64)) 4294967295)
      (bits .or .u64 (IntKind.u64.wrap (hi * 2 ^ min (IntKind.u64.wrap (lz y)).toNat 64)) (lo.fdiv (2 ^ min (IntKind.u64.wrap (64 - IntKind.u64.wrap (lz y))).toNat 64)))
      ((IntKind.u64.wrap (lo * 2 ^ min (IntKind.u64.wrap (lz y)).toNat 64)).fdiv 4294967296) (bits .and .u64 (IntKind.u64.wrap (lo * 2 ^ min (IntKind.u64.wrap (lz y)).toNat 64)) 4294967295)
      (dvP ((IntKind.u64.wrap (y * 2 ^ min (IntKind.u64.wrap (lz y)).toNat 64)).fdiv 4294967296) (bits .or .u64 (IntKind.u64.wrap (hi * 2 ^ min (IntKind.u64.wrap (lz y)).toNat 64)) (lo.fdiv (2 ^ min (IntKind.u64.wrap (64 - IntKind.u64.wrap (lz y))).toNat 64))))
      (dvR ((IntKind.u64.wrap (y * 2 ^ min (IntKind.u64.wrap (lz y)).toNat 64)).fdiv 4294967296) (bits .or .u64 (IntKind.u64.wrap (hi * 2 ^ min (IntKind.u64.wrap (lz y)).toNat 64)) (lo.fdiv (2 ^ min (IntKind.u64.wrap (64 - IntKind.u64.wrap (lz y))).toNat 64)))))
      noMem (bif !y == 0 then bif !decide (y ≤ hi) then bif !hi == 0 then bif decide (0 ≤ y) then bif decide (y ≤ 18446744073709551615) then bif decide (0 ≤ IntKind.u64.wrap (lz y)) then bif decide (0 ≤ IntKind.u64.wrap (lz y)) then
        bif decide (0 ≤ IntKind.u64.wrap (64 - IntKind.u64.wrap (lz y))) then bif decide (0 ≤ IntKind.u64.wrap (lz y)) then bif decide ¬(IntKind.u64.wrap (y * 2 ^ min (IntKind.u64.wrap (lz y)).toNat IntKind.u64.bits)).fdiv (2 ^ min (Int.toNat 32) IntKind.u64.bits) = 0 then true
        else false else false else false else false else false else false else false else false else false else false)) := by kernel_rfl
theorem dv_zero (hi lo y : Int) : FO_ Try.prog L_lz Try.f73 dvC [] 99 [0, 0, 1] [vu hi, vu lo, vu y] noMem =
    some (.ret (.tup [vu (IntKind.u64.wrap (lo.tdiv y)), vu (lo.tmod y)]) ⟨[], 99⟩ (bif !y == 0 then bif !decide (y ≤ hi) then bif hi == 0 then bif decide ¬y = 0 then bif decide ¬y = 0 then true else false else false else false else false else false)) := by kernel_rfl
theorem dv_one (y s a b u d e q r : Int) : H_ Try.prog L_lz Try.f73 dvC [] 99 (hd Try.f73 0) (dvTm y s a b u d e q r) noMem =
    bif dvT b r d q then bif decide (4294967296 ≤ IntKind.u64.wrap (r + a)) then some (.head (hd Try.f73 1) (dvTn y s a b u d e (IntKind.u64.wrap (q - 1)) (dvR a (dvV y u d (IntKind.u64.wrap (q - 1)))) (dvV y u d (IntKind.u64.wrap (q - 1))) (dvP a (dvV y u d (IntKind.u64.wrap (q - 1))))) noMem (bif decide ¬a = 0 then true else false))
      else some (.head (hd Try.f73 0) (dvTm y s a b u d e (IntKind.u64.wrap (q - 1)) (IntKind.u64.wrap (r + a))) noMem true)
    else some (.head (hd Try.f73 1) (dvTn y s a b u d e q (dvR a (dvV y u d q)) (dvV y u d q) (dvP a (dvV y u d q))) noMem (bif decide ¬a = 0 then true else false)) := by kernel_rfl
theorem dv_two (y s a b u d e q r v p : Int) : H_ Try.prog L_lz Try.f73 dvC [] 99 (hd Try.f73 1) (dvTn y s a b u d e q r v p) noMem =
    bif dvT b r e p then bif decide (4294967296 ≤ IntKind.u64.wrap (r + a)) then some (.ret (dvRet y s v e q (IntKind.u64.wrap (p - 1))) ⟨[], 99⟩ (bif decide (0 ≤ s) then true else false))
      else some (.head (hd Try.f73 1) (dvTn y s a b u d e q (IntKind.u64.wrap (r + a)) v (IntKind.u64.wrap (p - 1))) noMem true)
    else some (.ret (dvRet y s v e q p) ⟨[], 99⟩ (bif decide (0 ≤ s) then true else false)) := by kernel_rfl
-- plain
theorem wrapW {x : Int} (h : 0 ≤ x ∧ x < 18446744073709551616) : IntKind.u64.wrap x = x := by rw [IntKind.wrap_u64]; exact Int.emod_eq_of_lt h.1 h.2
section
variable {y a b u d : Int}
theorem dvT_eq (h : DvIn y a b u d) {q r : Int} (hq : 0 ≤ q) (hr : 0 ≤ r ∧ r < 4294967296) : dvT b r d q = decide (4294967296 ≤ q ∨ 4294967296 * r + d < q * b) := by
  unfold dvT
  by_cases c : 4294967296 ≤ q
  · rw [decide_eq_true c, decide_eq_true (Or.inl c)]; rfl
  · have h0 := h.h0; have hd := h.hd
    have : q * b ≤ 4294967295 * b := Int.mul_le_mul_of_nonneg_right (by omega) h0.1
    have : 0 ≤ q * b := Int.mul_nonneg hq h0.1
    rw [decide_eq_false c, wrapW (x := 4294967296 * r) (by omega), wrapW (x := 4294967296 * r + d) (by omega), wrapW (x := q * b) (by omega)]
    simp only [cond_false, c, false_or]
theorem dvV_eq (h : DvIn y a b u d) : dvV y u d ((u * 4294967296 + d) / y) = (u * 4294967296 + d) % y ∧ 0 ≤ (u * 4294967296 + d) % y ∧ (u * 4294967296 + d) % y < y := by
  have hp := h.pos
  have e := Int.mul_ediv_add_emod (u * 4294967296 + d) y
  have h1 := Int.emod_nonneg (u * 4294967296 + d) (show y ≠ 0 by omega)
  have h2 := Int.emod_lt_of_pos (u * 4294967296 + d) hp
  refine ⟨?_, h1, h2⟩
  have hy := h.hy; have ha := h.h1; have hb := h.h0
  unfold dvV
  rw [Int.mul_comm] at e
  rw [IntKind.wrap_u64, IntKind.wrap_u64, IntKind.wrap_u64, IntKind.wrap_u64]
  generalize (u * 4294967296 + d) / y * y = z at *
  generalize (u * 4294967296 + d) % y = t at *
  omega
theorem dvP_in (h : DvIn y a b u d) : dvP a u = u / a ∧ dvR a u = u % a ∧ 0 ≤ u / a ∧ (0 ≤ u % a ∧ u % a < 4294967296) ∧ u = u / a * a + u % a ∧ u / a < 18446744073709551616 := by
  have hy := h.hy; have h1 := h.h1; have h0 := h.h0; have hu := h.hu
  have e := Int.mul_ediv_add_emod u a
  have n1 := Int.emod_nonneg u (show a ≠ 0 by omega)
  have n2 := Int.emod_lt_of_pos u (show 0 < a by omega)
  have n3 : 0 ≤ u / a := Int.ediv_nonneg hu.1 (by omega)
  have n4 : u / a ≤ u := Int.ediv_le_self _ hu.1
  have e1 : dvP a u = u / a := by
    unfold dvP
    rw [Int.tdiv_eq_ediv_of_nonneg hu.1, wrapW (by omega)]
  rw [Int.mul_comm] at e
  refine ⟨e1, ?_, n3, ⟨n1, by omega⟩, by omega, by omega⟩
  unfold dvR
  rw [e1]
  have : 0 ≤ u / a * a := Int.mul_nonneg n3 (by omega)
  rw [wrapW (x := u / a * a) (by omega), wrapW (by omega)]
  omega
/-- The second loop. -/
theorem dv_loop2 {e v : Int} (s q : Int) (hs : 0 ≤ s) (d u : Int) (h : DvIn y a b v e) : ∀ (n : Nat) (p r : Int), 4294967296 ≤ r + n * 2147483648 → 0 ≤ p → p < 18446744073709551616 → 0 ≤ r → r < 4294967296 → v = p * a + r → (v * 4294967296 + e) / y ≤ p →
    Gives_ Try.prog Try.f73 0 ⟨hd Try.f73 1, dvTn y s a b u d e q r v p, noMem⟩ (dvRet y s v e q ((v * 4294967296 + e) / y)) ⟨[], 99⟩
  | 0, p, r, hn, _, _, _, hr, _, _ => by exfalso; omega
  | n + 1, p, r, hn, hp, hp2, hr0, hr, hv, hP => by
    have h1 := h.h1
    have hT := dvT_eq h hp ⟨hr0, hr⟩
    by_cases c : 4294967296 ≤ p ∨ 4294967296 * r + e < p * b
    · have hP' := h.great hv c
      have hq0 := h.q_nn
      rw [decide_eq_true c] at hT
      have ew : IntKind.u64.wrap (p - 1) = p - 1 := wrapW (by omega)
      have er : IntKind.u64.wrap (r + a) = r + a := wrapW (by omega)
      have hv' : v = (p - 1) * a + (r + a) := by rw [Int.sub_mul]; omega
      by_cases c2 : 4294967296 ≤ r + a
      · have hb := h.broke hv' (by omega) c2
        refine H_ret (cuts := dvC) (ns := []) (top := 99) hE_lz mixedV rfl ?_
        rw [dv_two, hT, ew, er, decide_eq_true c2, decide_eq_true hs, show p - 1 = (v * 4294967296 + e) / y by omega]
        rfl
      · refine Goes.gives (H_head (f := Try.f73) (cuts := dvC) (ns := []) (top := 99) hE_lz mixedV rfl ?_) (dv_loop2 s q hs d u h n (p - 1) (r + a) (by omega) (by omega) (by omega) (by omega) (by omega) hv' (by omega))
        rw [dv_two, hT, ew, er, decide_eq_false c2]
        rfl
    · have hb := h.small hv (by omega)
      rw [decide_eq_false c] at hT
      refine H_ret (cuts := dvC) (ns := []) (top := 99) hE_lz mixedV rfl ?_
      rw [dv_two, hT, decide_eq_true hs, show p = (v * 4294967296 + e) / y by omega]
      rfl
/-- What the second loop starts from. -/
theorem dv_mid (h : DvIn y a b u d) {e : Int} (he : 0 ≤ e ∧ e < 4294967296) (s : Int) (hs : 0 ≤ s) :
    Gives_ Try.prog Try.f73 0 ⟨hd Try.f73 1, dvTn y s a b u d e ((u * 4294967296 + d) / y) (dvR a (dvV y u d ((u * 4294967296 + d) / y))) (dvV y u d ((u * 4294967296 + d) / y)) (dvP a (dvV y u d ((u * 4294967296 + d) / y))), noMem⟩
      (dvRet y s ((u * 4294967296 + d) % y) e ((u * 4294967296 + d) / y) (((u * 4294967296 + d) % y * 4294967296 + e) / y)) ⟨[], 99⟩ := by
  obtain ⟨e1, e2, e3⟩ := dvV_eq h
  rw [e1]
  have h2 : DvIn y a b ((u * 4294967296 + d) % y) e := ⟨h.hy, h.h0, h.h1, ⟨e2, e3⟩, he⟩
  obtain ⟨p1, p2, p3, p4, p5, p6⟩ := dvP_in h2
  rw [p1, p2]
  exact dv_loop2 s _ hs d u h2 2 _ _ (by omega) p3 p6 p4.1 p4.2 p5 h2.first
/-- The first loop. -/
theorem dv_loop1 (h : DvIn y a b u d) {e : Int} (he : 0 ≤ e ∧ e < 4294967296) (s : Int) (hs : 0 ≤ s) : ∀ (n : Nat) (p r : Int), 4294967296 ≤ r + n * 2147483648 → 0 ≤ p → p < 18446744073709551616 → 0 ≤ r → r < 4294967296 → u = p * a + r → (u * 4294967296 + d) / y ≤ p →
    Gives_ Try.prog Try.f73 0 ⟨hd Try.f73 0, dvTm y s a b u d e p r, noMem⟩ (dvRet y s ((u * 4294967296 + d) % y) e ((u * 4294967296 + d) / y) (((u * 4294967296 + d) % y * 4294967296 + e) / y)) ⟨[], 99⟩
  | 0, p, r, hn, _, _, _, hr, _, _ => by exfalso; omega
  | n + 1, p, r, hn, hp, hp2, hr0, hr, hv, hP => by
    have h1 := h.h1
    have hT := dvT_eq h hp ⟨hr0, hr⟩
    by_cases c : 4294967296 ≤ p ∨ 4294967296 * r + d < p * b
    · have hP' := h.great hv c
      have hq0 := h.q_nn
      rw [decide_eq_true c] at hT
      have ew : IntKind.u64.wrap (p - 1) = p - 1 := wrapW (by omega)
      have er : IntKind.u64.wrap (r + a) = r + a := wrapW (by omega)
      have hv' : u = (p - 1) * a + (r + a) := by rw [Int.sub_mul]; omega
      by_cases c2 : 4294967296 ≤ r + a
      · have hb := h.broke hv' (by omega) c2
        refine Goes.gives (H_head (f := Try.f73) (cuts := dvC) (ns := []) (top := 99) hE_lz mixedV rfl ?_) (dv_mid h he s hs)
        rw [dv_one, hT, ew, er, decide_eq_true c2, decide_eq_true (show ¬ a = 0 by omega), show p - 1 = (u * 4294967296 + d) / y by omega]
        rfl
      · refine Goes.gives (H_head (f := Try.f73) (cuts := dvC) (ns := []) (top := 99) hE_lz mixedV rfl ?_) (dv_loop1 h he s hs n (p - 1) (r + a) (by omega) (by omega) (by omega) (by omega) (by omega) hv' (by omega))
        rw [dv_one, hT, ew, er, decide_eq_false c2]
        rfl
    · have hb := h.small hv (by omega)
      rw [decide_eq_false c] at hT
      refine Goes.gives (H_head (f := Try.f73) (cuts := dvC) (ns := []) (top := 99) hE_lz mixedV rfl ?_) (dv_mid h he s hs)
      rw [dv_one, hT, decide_eq_true (show ¬ a = 0 by omega), show p = (u * 4294967296 + d) / y by omega]
      rfl
end
end Go.Proofs.Ytanfjgkohhlcoaa
