/-
  math/bits.Mul64, Add64, Sub64, off the shelf.
-/
import Derived.Test.YtanfjgkohhlcoaaEx14
import Derived.Test.YtanfjgkohhlcoaaLyB
namespace Go.Proofs.Ytanfjgkohhlcoaa
open Go Go.RowKit Go.Shelf
abbrev m64 : Int := 18446744073709551616
/-- Numbers of 64 bits. -/
def inU (x : Int) : Bool := decide (0 ≤ x) && decide (x < m64)
def e_mul64 : Spec := fun _ args => match args with
  | [.val (.int .u64 x), .val (.int .u64 y)] => some (.tup [vu (x * y / m64), vu (x * y % m64)], none, [inU x, inU y])
  | _ => none
def e_add64 : Spec := fun _ args => match args with
  | [.val (.int .u64 x), .val (.int .u64 y), .val (.int .u64 c)] => some (.tup [vu ((x + y + c) % m64), vu ((x + y + c) / m64)], none, [inU x, inU y, decide (0 ≤ c), decide (c ≤ 1)])
  | _ => none
/-- What is taken from above. -/
def borrow (x y c : Int) : Int := bif decide (x < y + c) then 1 else 0
def e_sub64 : Spec := fun _ args => match args with
  | [.val (.int .u64 x), .val (.int .u64 y), .val (.int .u64 c)] => some (.tup [vu ((x + m64 - y - c) % m64), vu (borrow x y c)], none, [inU x, inU y, decide (0 ≤ c), decide (c ≤ 1)])
  | _ => none
theorem ok_mul64 : SpecOk Try.prog 69 e_mul64 := fun m args v mo bs h hb => by
  unfold e_mul64 at h
  split at h
  · rename_i x y
    cases h
    simp [inU, m64] at hb
    obtain ⟨⟨hx0, hx⟩, hy0, hy⟩ := hb
    obtain ⟨a, rfl⟩ := Int.eq_ofNat_of_zero_le hx0
    obtain ⟨b, rfl⟩ := Int.eq_ofNat_of_zero_le hy0
    refine calls_fn (fun xs w => Try.call69 xs w) fun ρ xs w hr => ?_
    simp only [AV.rels, AV.rel] at hr
    obtain ⟨_, _, rfl, rfl, _, _, rfl, rfl, rfl⟩ := hr
    refine Calls.mono (Any.bits_Mul64 Try.lays264 a b (by omega) (by omega) w) ?_
    rintro e w' ⟨rfl, rfl⟩
    refine ⟨⟨_, rfl, ?_⟩, rfl⟩
    simp only [AV.rel, AV.rels]
    exact ⟨_, rfl, _, _, rfl, by simp, _, _, rfl, by simp, rfl⟩
  · cases h
theorem ok_add64 : SpecOk Try.prog 70 e_add64 := fun m args v mo bs h hb => by
  unfold e_add64 at h
  split at h
  · rename_i x y c
    cases h
    simp [inU, m64] at hb
    obtain ⟨⟨hx0, hx⟩, ⟨hy0, hy⟩, hc0, hc⟩ := hb
    obtain ⟨a, rfl⟩ := Int.eq_ofNat_of_zero_le hx0
    obtain ⟨b, rfl⟩ := Int.eq_ofNat_of_zero_le hy0
    obtain ⟨d, rfl⟩ := Int.eq_ofNat_of_zero_le hc0
    refine plain_fn rfl fun ρ xs w hr => ?_
    simp only [AV.rels, AV.rel] at hr
    obtain ⟨_, _, rfl, rfl, _, _, rfl, rfl, _, _, rfl, rfl, rfl⟩ := hr
    refine ⟨_, Any7.bits_Add64 Try.lays25k7 a b d (by omega) w, ?_⟩
    simp only [AV.rel, AV.rels]
    exact ⟨_, rfl, _, _, rfl, by simp, _, _, rfl, by simp, rfl⟩
  · cases h
theorem ok_sub64 : SpecOk Try.prog 75 e_sub64 := fun m args v mo bs h hb => by
  unfold e_sub64 at h
  split at h
  · rename_i x y c
    cases h
    simp [inU, m64] at hb
    obtain ⟨⟨hx0, hx⟩, ⟨hy0, hy⟩, hc0, hc⟩ := hb
    obtain ⟨a, rfl⟩ := Int.eq_ofNat_of_zero_le hx0
    obtain ⟨b, rfl⟩ := Int.eq_ofNat_of_zero_le hy0
    obtain ⟨d, rfl⟩ := Int.eq_ofNat_of_zero_le hc0
    refine plain_fn rfl fun ρ xs w hr => ?_
    simp only [AV.rels, AV.rel] at hr
    obtain ⟨_, _, rfl, rfl, _, _, rfl, rfl, _, _, rfl, rfl, rfl⟩ := hr
    refine ⟨_, Any7.bits_Sub64 Try.lays26k7 a b d (by omega) w, ?_⟩
    simp only [AV.rel, AV.rels]
    refine ⟨_, rfl, _, _, rfl, ?_, _, _, rfl, ?_, rfl⟩
    · congr 1
      simp only [m64]
      omega
    · unfold borrow
      congr 1
      by_cases e : a < b + d
      · rw [if_pos e, decide_eq_true (by omega)]; rfl
      · rw [if_neg e, decide_eq_false (by omega)]; rfl
  · cases h
def L_carry : List (FuncId × Spec) := [(69, e_mul64), (70, e_add64), (75, e_sub64)]
theorem hE_carry : ESound Try.prog (envOf L_carry) := env_cons ok_mul64 (env_cons ok_add64 (env_cons ok_sub64 env_nil))
theorem mixed : MixedOk Try.prog := by unfold MixedOk; kernel_rfl
end Go.Proofs.Ytanfjgkohhlcoaa
