/-
  The law of a meter's plays: round by round.
-/
import Derived.Test.YtanfjgkohhlcoaaMD
import Derived.Test.YtanfjgkohhlcoaaArg
namespace Go.Proofs.Ytanfjgkohhlcoaa
open Go Go.RowKit
theorem hE_m7a : ESound Try.prog (envOf ((54, e_aw07) :: (L_m7 Try.prog Try.f55 Try.f56 Try.f58 Try.f60 Try.f64 Try.f65 Try.f66 Try.f67 Try.f68))) := env_cons ok_aw07 hE_m7
structure Six where
  a : Int
  b : Int
  c : Int
  d : Int
  h : Int
  g : Int
/-- The next state, by a call. -/
def nxt (x : Six) (k v : Int) : Six :=
  bif k == 0 then ⟨x.a, x.b, x.c, x.d, haymowref07_Hold_0 x.a x.b x.c x.d x.h x.g v, haymowref07_Hold_1 x.a x.b x.c x.d x.h x.g v⟩
  else bif k == 1 then ⟨x.a, x.b, x.c, x.d, haymowref07_Free_0 x.a x.b x.c x.d x.h x.g v, x.g⟩
  else ⟨sA (haymowlaw07_kind_0 k v) x.a x.b v, sB (haymowlaw07_kind_0 k v) x.a x.b v, sC (haymowlaw07_kind_0 k v) x.c x.d v, sD (haymowlaw07_kind_0 k v) x.c x.d v, x.h, x.g⟩
abbrev Six.M (x : Six) (ks ns : List Int) (s t : Int) : MS := mpM ks ns s t x.a x.b x.c x.d x.h x.g
structure Six.ok (x : Six) : Prop where
  a : inU x.a = true
  b : inU x.b = true
  c : inU x.c = true
  d : inU x.d = true
theorem st_in {j k a b v : Int} (ha : inU a = true) (hb : inU b = true) : inU (bif actB j k v then stp0 a b v else a) = true ∧ inU (bif actB j k v then stp1 a b v else b) = true := by
  cases actB j k v with
  | false => exact ⟨ha, hb⟩
  | true =>
    obtain ⟨g1, g2, _⟩ := radd (of_inU ha) (of_inU hb) isU0 (wrapU v)
    obtain ⟨u1, u2⟩ := sat_isU (Int.add_nonneg (wv_nn (of_inU ha) (of_inU hb)) (wv_nn isU0 (wrapU v)))
    refine ⟨to_inU ?_, to_inU ?_⟩
    · show isU (haymowref01_Add_0 a b 0 (IntKind.u64.wrap v)); rw [g1]; exact u1
    · show isU (haymowref01_Add_1 a b 0 (IntKind.u64.wrap v)); rw [g2]; exact u2
theorem nxt_ok {x : Six} (hx : x.ok) (k v : Int) : (nxt x k v).ok := by
  unfold nxt
  cases (k == 0) with
  | true => exact ⟨hx.a, hx.b, hx.c, hx.d⟩
  | false =>
    cases (k == 1) with
    | true => exact ⟨hx.a, hx.b, hx.c, hx.d⟩
    | false =>
      obtain ⟨h1, h2⟩ := st_in (j := 0) (k := haymowlaw07_kind_0 k v) (v := v) hx.a hx.b
      obtain ⟨h3, h4⟩ := st_in (j := 1) (k := haymowlaw07_kind_0 k v) (v := v) hx.c hx.d
      exact ⟨h1, h2, h3, h4⟩
theorem col0 (i : Nat) : addN 0 (mulN i 1) = i := by rw [addN_eq, mulN_eq]; omega
theorem mp_next {n : Nat} {cp : Option Nat} {ks ns : List Int} {s t : Int} {x : Six} {i : Nat} (hi : i < n) (hb : n ≤ 200) (hk : ks.length = n) (hn : ns.length = n) (hs : inU s = true) (ht : inU t = true) (hx : x.ok) :
    H_ Try.prog ((54, e_aw07) :: (L_m7 Try.prog Try.f55 Try.f56 Try.f58 Try.f60 Try.f64 Try.f65 Try.f66 Try.f67 Try.f68)) Try.f13 mpC [] 99 (hd Try.f13 0) (mpTm n cp i) (x.M ks ns s t) = some (.head (hd Try.f13 0) (mpTm n cp ((i + 1 : Nat) : Int)) ((nxt x (ks.getD i 0) (ns.getD i 0)).M ks ns s t) true) := by
  obtain ⟨a, b, c, d, h, g⟩ := x
  obtain ⟨h1, h2, h3, h4⟩ := hx
  simp only at h1 h2 h3 h4
  unfold Six.M
  rw [mp_round, decide_eq_true (show (i : Int) < Int.ofNat n by simp; omega)]
  simp only [Int.toNat_natCast, col0]
  have w1 : IntKind.i64.wrap ((i : Int) + 1) = ((i + 1 : Nat) : Int) := by rw [IntWalk.i64_in _ (by omega)]; omega
  rw [w1]
  simp only [decide_eq_true (show (0 : Int) ≤ (i : Int) by omega), decide_eq_true hi, decide_eq_true (show i < ks.length by omega), decide_eq_true (show i < ns.length by omega), h1, h2, h3, h4, hs, ht]
  generalize ks.getD i 0 = k
  generalize ns.getD i 0 = v
  obtain ⟨j1, j2⟩ := st_in (j := 0) (k := haymowlaw07_kind_0 k v) (v := v) h1 h2
  obtain ⟨j3, j4⟩ := st_in (j := 1) (k := haymowlaw07_kind_0 k v) (v := v) h3 h4
  have k1 : inU (sA (haymowlaw07_kind_0 k v) a b v) = true := j1
  have k2 : inU (sB (haymowlaw07_kind_0 k v) a b v) = true := j2
  have k3 : inU (sC (haymowlaw07_kind_0 k v) c d v) = true := j3
  have k4 : inU (sD (haymowlaw07_kind_0 k v) c d v) = true := j4
  simp only [bne_self_eq_false, beq_self_eq_true, cond_true, cond_false, Bool.and_true, Bool.not_true, Bool.not_false, Bool.or_true, k1, k2, k3, k4, Bool.true_and]
  unfold nxt
  cases (k == 0) with
  | true => rfl
  | false =>
    cases (k == 1) with
    | true => rfl
    | false => rfl
end Go.Proofs.Ytanfjgkohhlcoaa
