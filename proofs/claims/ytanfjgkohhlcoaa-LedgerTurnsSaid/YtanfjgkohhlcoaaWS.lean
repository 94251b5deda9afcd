/-
  Sums of many numbers: the walk of wide.Sum, and the plain laws.
-/
import Derived.Test.YtanfjgkohhlcoaaWU
import Derived.Test.YtanfjgkohhlcoaaExF
namespace Go.Proofs.Ytanfjgkohhlcoaa
open Go Go.RowKit
theorem wv_0 (x : Int) : wv 0 x = x := by unfold wv; omega
theorem is0 : isU 0 := by unfold isU; omega
theorem sat_wv {s : Int} (_ : 0 ≤ s) : (s < 340282366920938463463374607431768211456 ∧ wv (satH s) (satL s) = s) ∨ (340282366920938463463374607431768211456 ≤ s ∧ wv (satH s) (satL s) = 340282366920938463463374607431768211455) := by
  by_cases c : s < 340282366920938463463374607431768211456
  · refine .inl ⟨c, ?_⟩
    unfold satH satL
    rw [satF_t c]
    unfold wv
    simp only [cond_true]
    omega
  · refine .inr ⟨by omega, ?_⟩
    rw [(sat_over c).2.1, (sat_over c).2.2]
    unfold wv
    omega
theorem sat_add {s x : Int} (h : 0 ≤ s) (hx : isU x) : satH (wv (satH s) (satL s) + wv 0 x) = satH (s + x) ∧ satL (wv (satH s) (satL s) + wv 0 x) = satL (s + x) := by
  unfold isU at hx
  rw [wv_0]
  rcases sat_wv h with ⟨_, e⟩ | ⟨c, e⟩
  · rw [e]; exact ⟨rfl, rfl⟩
  · rw [e]
    by_cases h0 : x = 0
    · subst h0
      have h1 : (340282366920938463463374607431768211455 : Int) + 0 < 340282366920938463463374607431768211456 := by omega
      obtain ⟨_, g2, g3⟩ := sat_over (s := s + 0) (by omega)
      rw [g2, g3]
      exact ⟨rfl, rfl⟩
    · obtain ⟨_, g2, g3⟩ := sat_over (s := s + x) (by omega)
      obtain ⟨_, k2, k3⟩ := sat_over (s := 340282366920938463463374607431768211455 + x) (by omega)
      rw [g2, g3, k2, k3]
      exact ⟨rfl, rfl⟩
theorem wstep {s x : Int} (h : 0 ≤ s) (hx : isU x) : wide_Add_0 (satH s) (satL s) 0 x = satH (s + x) ∧ wide_Add_1 (satH s) (satL s) 0 x = satL (s + x) ∧ c_wide_Add (satH s) (satL s) 0 x = true := by
  obtain ⟨u1, u2⟩ := sat_isU h
  obtain ⟨g1, g2, _, g4⟩ := wadd u1 u2 is0 hx
  obtain ⟨k1, k2⟩ := sat_add h hx
  exact ⟨g1.trans k1, g2.trans k2, g4⟩
theorem rstep {s x : Int} (h : 0 ≤ s) (hx : isU x) : haymowref01_Add_0 (satH s) (satL s) 0 x = satH (s + x) ∧ haymowref01_Add_1 (satH s) (satL s) 0 x = satL (s + x) := by
  obtain ⟨u1, u2⟩ := sat_isU h
  obtain ⟨g1, g2, _⟩ := radd u1 u2 is0 hx
  obtain ⟨k1, k2⟩ := sat_add h hx
  exact ⟨g1.trans k1, g2.trans k2⟩
/-- Numbers added one by one. -/
def tot (f : Nat → Int) : Nat → Nat → Int → Int
  | _, 0, s => s
  | i, j + 1, s => tot f (i + 1) j (s + f i)
theorem tot_acc (f : Nat → Int) : ∀ (j i : Nat) (s : Int), tot f i j s = s + tot f i j 0
  | 0, i, s => by simp [tot]
  | j + 1, i, s => by
    unfold tot
    rw [tot_acc f j (i + 1) (s + f i), tot_acc f j (i + 1) (0 + f i)]
    omega
theorem tot_shift (f g : Nat → Int) : ∀ (j i k : Nat) (s : Int), (∀ q, q < j → f (i + q) = g (k + q)) → tot f i j s = tot g k j s
  | 0, i, k, s, _ => rfl
  | j + 1, i, k, s, h => by
    unfold tot
    have h0 := h 0 (by omega)
    simp only [Nat.add_zero] at h0
    rw [h0]
    exact tot_shift f g j (i + 1) (k + 1) _ fun q hq => by
      have := h (q + 1) (by omega)
      rw [show i + 1 + q = i + (q + 1) by omega, show k + 1 + q = k + (q + 1) by omega]
      exact this
theorem tot_last (f : Nat → Int) : ∀ (j i : Nat) (s : Int), tot f i (j + 1) s = tot f i j s + f (i + j)
  | 0, i, s => by simp [tot]
  | j + 1, i, s => by
    conv => lhs; unfold tot
    rw [tot_last f j (i + 1) (s + f i)]
    conv => rhs; unfold tot
    rw [show i + 1 + j = i + (j + 1) by omega]
theorem tot_rot1 (f : Nat → Int) (n : Nat) : tot (fun i => f ((i + 1) % (n + 1))) 0 (n + 1) 0 = tot f 0 (n + 1) 0 := by
  rw [tot_last, tot_shift (fun i => f ((i + 1) % (n + 1))) f n 0 1 0 (fun q hq => by
    simp only [Nat.zero_add]
    rw [Nat.mod_eq_of_lt (by omega), Nat.add_comm])]
  conv => rhs; unfold tot
  rw [tot_acc f n 1 (0 + f 0)]
  simp only [Nat.zero_add, Nat.mod_self]
  omega
theorem tot_rot (f : Nat → Int) (n : Nat) : ∀ t : Nat, tot (fun i => f ((i + t) % (n + 1))) 0 (n + 1) 0 = tot f 0 (n + 1) 0
  | 0 => tot_shift _ f (n + 1) 0 0 0 fun q hq => by
    simp only [Nat.zero_add, Nat.add_zero]
    rw [Nat.mod_eq_of_lt hq]
  | t + 1 => by
    rw [← tot_rot f n t, ← tot_rot1 (fun i => f ((i + t) % (n + 1))) n]
    refine tot_shift _ _ (n + 1) 0 0 0 fun q hq => ?_
    simp only [Nat.zero_add]
    congr 1
    rw [Nat.mod_add_mod]
    congr 1
    omega
def uB (zs : List Int) : Bool := zs.all inU
theorem u_at {zs : List Int} (h : uB zs = true) (i : Nat) : isU (zs.getD i 0) := by
  by_cases hi : i < zs.length
  · have := List.all_eq_true.1 h (zs.getD i 0) (by simp [hi])
    simp [inU, m64] at this
    unfold isU
    simpa using this
  · rw [List.getD_eq_getElem?_getD, List.getElem?_eq_none (show zs.length ≤ i by omega)]
    exact is0
-- wide.Sum
def suC : List Cut := [(2, [2, 3, 6, 7, 8], [0, 1, 2], 3)]
def suTm (nn : Bool) (n : Nat) (cap : Option Nat) (i : Int) : List AV := [.unk, .unk, .ptr 1 1 0 0, .ptr 2 1 0 0, .unk, .unk, .sl nn 0 1 0 1 n cap, vi n, vi i] ++ List.replicate 12 .unk
def suM (zs : List Int) (a b : Int) : MS := ⟨[(0, some ⟨false, false, .col (.ints .u64 zs)⟩), (1, some ⟨true, false, .cells [vu 0, vu 0]⟩), (2, some ⟨true, false, .cells [vu a, vu b]⟩)], 3⟩
def atB (i : Int) (n : Nat) (zs : List Int) (r : Bool) : Bool := bif decide (0 ≤ i) then bif decide (i.toNat < n) then bif decide (i.toNat < zs.length) then r else false else false else false
theorem atB_ok {i n : Nat} {zs : List Int} {r : Bool} (h : i < n) (hz : n ≤ zs.length) : atB (i : Int) n zs r = r := by
  unfold atB
  rw [Int.toNat_natCast, decide_eq_true (show (0 : Int) ≤ i by omega), decide_eq_true h, decide_eq_true (show i < zs.length by omega)]
  rfl
theorem su_in (nn : Bool) (n : Nat) (cap : Option Nat) (zs : List Int) : F_ Try.prog L_aw Try.f21 suC [] 99 [.sl nn 0 1 0 1 n cap] ⟨[(0, some ⟨false, false, .col (.ints .u64 zs)⟩)], 1⟩ =
    some (Fin_.head (hd Try.f21 0) (suTm nn n cap 0) (suM zs 0 0) true) := by kernel_rfl
theorem su_round (nn : Bool) (n : Nat) (cap : Option Nat) (zs : List Int) (i a b : Int) : H_ Try.prog L_aw Try.f21 suC [] 99 (hd Try.f21 0) (suTm nn n cap i) (suM zs a b) =
    bif decide (i < n) then some (Fin_.head (hd Try.f21 0) (suTm nn n cap (IntKind.i64.wrap (i + 1))) (suM zs (wide_Add_0 a b 0 (zs.getD i.toNat 0)) (wide_Add_1 a b 0 (zs.getD i.toNat 0)))
      (atB i n zs (bif c_wide_Add a b 0 (zs.getD i.toNat 0) then true else false)))
    else some (Fin_.ret (.agg [vu a, vu b]) ⟨[], 99⟩ true) := by kernel_rfl
theorem su_nil : F_ Try.prog L_aw Try.f21 [] [] 99 [.val (.slice none 0 0)] noMem = some (Fin_.ret (.agg [vu 0, vu 0]) ⟨[], 99⟩ true) := by kernel_rfl
theorem su_loop (nn : Bool) (n : Nat) (cap : Option Nat) (hn : n ≤ 9223372036854775807) (zs : List Int) (hz : n ≤ zs.length) (hu : uB zs = true) : ∀ (j i : Nat) (s : Int), i + j = n → 0 ≤ s →
    Gives_ Try.prog Try.f21 1 ⟨hd Try.f21 0, suTm nn n cap i, suM zs (satH s) (satL s)⟩ (.agg [vu (satH (tot (fun k => zs.getD k 0) i j s)), vu (satL (tot (fun k => zs.getD k 0) i j s))]) ⟨[], 99⟩
  | 0, i, s, hi, h0 => by
    refine H_ret (cuts := suC) (ns := []) (top := 99) hE_aw mixed rfl ?_
    rw [su_round, decide_eq_false (show ¬ (i : Int) < n by omega)]
    rfl
  | j + 1, i, s, hi, h0 => by
    have hx := u_at hu i
    obtain ⟨g1, g2, g3⟩ := wstep h0 hx
    unfold isU at hx
    refine Goes.gives (H_head (f := Try.f21) (cuts := suC) (ns := []) (top := 99) (todo' := hd Try.f21 0) (tm' := suTm nn n cap ((i + 1 : Nat) : Int)) (m' := suM zs (satH (s + zs.getD i 0)) (satL (s + zs.getD i 0))) hE_aw mixed rfl ?_) (su_loop nn n cap hn zs hz hu j (i + 1) _ (by omega) (by omega))
    rw [su_round, decide_eq_true (show (i : Int) < n by omega), Int.toNat_natCast, g1, g2, g3, atB_ok (by omega) hz, show IntKind.i64.wrap ((i : Int) + 1) = ((i + 1 : Nat) : Int) by rw [IntWalk.i64_in _ (by omega)]; omega]
    rfl
def e_wsum : Spec := fun m args => match args with
  | [.sl nn l 1 0 1 n cap] => match look m.bl l with
    | some ⟨_, _, .col (.ints .u64 zs)⟩ => some (.agg [vu (satH (tot (fun k => zs.getD k 0) 0 n 0)), vu (satL (tot (fun k => zs.getD k 0) 0 n 0))], none, [decide (n ≤ 9223372036854775807), decide (n ≤ zs.length), uB zs])
    | _ => none
  | [.val (.slice none 0 0)] => some (.agg [vu 0, vu 0], none, [])
  | _ => none
theorem ok_wsum : SpecOk Try.prog 21 e_wsum := fun m args v mo bs h hb => by
  unfold e_wsum at h
  split at h
  · rename_i nn l n cap
    split at h
    · rename_i wr op zs hl
      cases h
      simp only [List.all_cons, List.all_nil, id, Bool.and_eq_true, decide_eq_true_eq] at hb
      exact lift_one (ar := []) (br := []) hl rfl (fsound (c := bodyOf Try.f21) (fun xs w => Try.call21 xs w) Try.func21 rfl
        (Goes.gives (F_head (f := Try.f21) (c := bodyOf Try.f21) (cuts := suC) (ns := []) (top := 99) hE_aw mixed rfl rfl (su_in nn n cap zs)) (su_loop nn n cap hb.1 zs hb.2.1 hb.2.2.1 n 0 0 (by omega) (by omega)))) rfl rfl rfl rfl
    · cases h
  · cases h
    exact pure_fn (c := bodyOf Try.f21) hE_aw mixed (fun xs w => Try.call21 xs w) Try.func21 rfl su_nil rfl rfl
  · cases h
def L_ws : List (FuncId × Spec) := (21, e_wsum) :: L_haymowlaw01_awake
theorem hE_ws : ESound Try.prog (envOf L_ws) := env_cons ok_wsum hE_haymowlaw01_awake
end Go.Proofs.Ytanfjgkohhlcoaa
