/-
  Sums of many numbers, in whatever order: the law's run.
-/
import Derived.Test.YtanfjgkohhlcoaaWS
namespace Go.Proofs.Ytanfjgkohhlcoaa
open Go Go.RowKit
theorem tot_nn {f : Nat → Int} (h : ∀ k, 0 ≤ f k) : ∀ (j i : Nat) (s : Int), 0 ≤ s → 0 ≤ tot f i j s
  | 0, _, s, hs => hs
  | j + 1, i, s, hs => tot_nn h j (i + 1) _ (by have := h i; omega)
/-- The numbers from some place on, round and round. -/
def rot (zs : List Int) (n t : Nat) : Nat → List Int
  | 0 => []
  | i + 1 => rot zs n t i ++ [zs.getD ((i + t) % n) 0]
theorem rot_len (zs : List Int) (n t : Nat) : ∀ i, (rot zs n t i).length = i
  | 0 => rfl
  | i + 1 => by simp [rot, rot_len zs n t i]
theorem rot_get (zs : List Int) (n t : Nat) : ∀ i q, q < i → (rot zs n t i).getD q 0 = zs.getD ((q + t) % n) 0
  | 0, q, h => by omega
  | i + 1, q, h => by
    have hl := rot_len zs n t i
    unfold rot
    by_cases e : q = i
    · subst e
      rw [List.getD_eq_getElem?_getD, List.getElem?_append_right (by omega), hl, Nat.sub_self]
      rfl
    · rw [List.getD_eq_getElem?_getD, List.getElem?_append_left (by omega), ← List.getD_eq_getElem?_getD]
      exact rot_get zs n t i q (by omega)
theorem rot_u {zs : List Int} (h : uB zs = true) (n t : Nat) : ∀ i, uB (rot zs n t i) = true
  | 0 => rfl
  | i + 1 => by
    unfold rot uB
    rw [List.all_append]
    have h1 := rot_u h n t i
    unfold uB at h1
    rw [h1]
    have h2 := inU_of (u_at h ((i + t) % n))
    simp only [List.all_cons, List.all_nil, h2, Bool.and_self]
def wlIx (i t : Int) (n : Nat) : Int := (IntKind.i64.wrap (i + IntKind.i64.wrap t)).tmod n
def wlTm (s : AV) (n c : Nat) (t i : Int) : List AV := [.sl false 0 1 0 1 n (some c), .val (.int .u8 t), .unk, .unk, .unk, .ptr 1 1 0 0, s, vi i] ++ List.replicate 44 .unk
def wlM0 (zs : List Int) (a b : Int) : MS := ⟨[(0, some ⟨false, false, .col (.ints .u64 zs)⟩), (1, some ⟨true, false, .cells [vu a, vu b]⟩)], 2⟩
def wlM (l nx : Nat) (zs : List Int) (a b : Int) (T : List Int) : MS := ⟨[(0, some ⟨false, false, .col (.ints .u64 zs)⟩), (1, some ⟨true, false, .cells [vu a, vu b]⟩), (l, some ⟨true, true, .col (.ints .u64 T)⟩)], nx⟩
def nilS : AV := .val (.slice none 0 0)
def rB (i t : Int) (n : Nat) (zs : List Int) (r : Bool) : Bool := bif decide (0 ≤ i) then bif decide (i.toNat < n) then bif decide (i.toNat < zs.length) then bif decide (¬ (n : Int) = 0) then bif decide (0 ≤ wlIx i t n) then bif decide ((wlIx i t n).toNat < n) then bif decide ((wlIx i t n).toNat < zs.length) then r else false else false else false else false else false else false else false
def wlE : List Cut := [(2, [0, 1, 5, 6, 7], [0, 1], 2)]
def wlA : List Cut := [(2, [0, 1, 5, 6, 7], [0, 1, 3], 4)]
def wlC : List Cut := [(2, [0, 1, 5, 6, 7], [0, 1, 4], 5)]
theorem wl_in (n c : Nat) (zs : List Int) (t : Int) : F_ Try.prog L_ws Try.f4 wlE [] 99 [.sl false 0 1 0 1 n (some c), .val (.int .u8 t)] ⟨[(0, some ⟨false, false, .col (.ints .u64 zs)⟩)], 1⟩ =
    bif decide ((200 : Int) < n) then some (Fin_.ret (vb true) ⟨[], 99⟩ true) else some (Fin_.head (hd Try.f4 0) (wlTm nilS n c t 0) (wlM0 zs 0 0) true) := by kernel_rfl
theorem wl_nil (n c : Nat) (zs : List Int) (t i a b : Int) : H_ Try.prog L_ws Try.f4 wlA [] 99 (hd Try.f4 0) (wlTm nilS n c t i) (wlM0 zs a b) =
    bif decide (i < n) then some (Fin_.head (hd Try.f4 0) (wlTm (.sl true 3 1 0 1 1 none) n c t (IntKind.i64.wrap (i + 1))) (wlM 3 4 zs (haymowref01_Add_0 a b 0 (zs.getD i.toNat 0)) (haymowref01_Add_1 a b 0 (zs.getD i.toNat 0)) [zs.getD (wlIx i t n).toNat 0]) (rB i t n zs true))
    else some (Fin_.ret (vb (bif satH (tot (fun q => zs.getD q 0) 0 n 0) == a && (satL (tot (fun q => zs.getD q 0) 0 n 0) == b && true) then 0 == a && (0 == b && true) else false)) ⟨[], 99⟩ (bif decide (n ≤ 9223372036854775807) then bif decide (n ≤ zs.length) then bif uB zs then true else false else false else false)) := by kernel_rfl
theorem wl_round (n c : Nat) (zs T : List Int) (k : Nat) (t i a b : Int) : H_ Try.prog L_ws Try.f4 wlC [] 99 (hd Try.f4 0) (wlTm (.sl true 2 1 0 1 k none) n c t i) (wlM 2 3 zs a b T) =
    bif decide (i < n) then some (Fin_.head (hd Try.f4 0) (wlTm (.sl true 4 1 0 1 (k + 1) none) n c t (IntKind.i64.wrap (i + 1))) (wlM 4 5 zs (haymowref01_Add_0 a b 0 (zs.getD i.toNat 0)) (haymowref01_Add_1 a b 0 (zs.getD i.toNat 0)) (T.take k ++ [zs.getD (wlIx i t n).toNat 0]))
      (rB i t n zs (bif decide (0 < k) then bif decide ((k + 1) * 8 ≤ 140737488355328) then bif decide (k ≤ T.length) then true else false else false else false)))
    else some (Fin_.ret (vb (bif satH (tot (fun q => zs.getD q 0) 0 n 0) == a && (satL (tot (fun q => zs.getD q 0) 0 n 0) == b && true) then satH (tot (fun q => T.getD q 0) 0 k 0) == a && (satL (tot (fun q => T.getD q 0) 0 k 0) == b && true) else false)) ⟨[], 99⟩
      (bif decide (n ≤ 9223372036854775807) then bif decide (n ≤ zs.length) then bif uB zs then
        bif !(satH (tot (fun q => zs.getD q 0) 0 n 0) == a && (satL (tot (fun q => zs.getD q 0) 0 n 0) == b && true)) || decide (k ≤ 9223372036854775807) then
        bif !(satH (tot (fun q => zs.getD q 0) 0 n 0) == a && (satL (tot (fun q => zs.getD q 0) 0 n 0) == b && true)) || decide (k ≤ T.length) then
        bif !(satH (tot (fun q => zs.getD q 0) 0 n 0) == a && (satL (tot (fun q => zs.getD q 0) 0 n 0) == b && true)) || uB T then true else false else false else false else false else false else false)) := by kernel_rfl
theorem ix_eq {i n t : Nat} (hi : i < n) (hn : n ≤ 200) (ht : t ≤ 255) : wlIx (i : Int) (t : Int) n = (((i + t) % n : Nat) : Int) := by
  unfold wlIx
  rw [IntWalk.i64_in (t : Int) (by omega), IntWalk.i64_in ((i : Int) + t) (by omega), Int.tmod_eq_emod_of_nonneg (by omega)]
  simp
theorem rB_ok {i n t : Nat} {zs : List Int} {r : Bool} (hi : i < n) (hn : n ≤ 200) (ht : t ≤ 255) (hz : n ≤ zs.length) : rB (i : Int) (t : Int) n zs r = r := by
  have hm : (i + t) % n < n := Nat.mod_lt _ (by omega)
  unfold rB
  rw [ix_eq hi hn ht, Int.toNat_natCast, Int.toNat_natCast, decide_eq_true (show (0 : Int) ≤ i by omega), decide_eq_true hi, decide_eq_true (show i < zs.length by omega), decide_eq_true (show ¬ (n : Int) = 0 by omega), decide_eq_true (show (0 : Int) ≤ ((i + t) % n : Nat) by omega), decide_eq_true hm, decide_eq_true (show (i + t) % n < zs.length by omega)]
  rfl
theorem wl_loop (n c : Nat) (hn : n ≤ 200) (zs : List Int) (hz : n ≤ zs.length) (hu : uB zs = true) (t : Nat) (ht : t ≤ 255) : ∀ (j i : Nat), i + j = n → 0 < i →
    Gives_ Try.prog Try.f4 1 ⟨hd Try.f4 0, wlTm (.sl true 2 1 0 1 i none) n c t i, wlM 2 3 zs (satH (tot (fun q => zs.getD q 0) 0 i 0)) (satL (tot (fun q => zs.getD q 0) 0 i 0)) (rot zs n t i)⟩ (vb true) ⟨[], 99⟩
  | 0, i, hi, h0 => by
    have hi' : i = n := by omega
    subst hi'
    refine H_ret (cuts := wlC) (ns := []) (top := 99) hE_ws mixed rfl ?_
    have hr : tot (fun q => (rot zs i t i).getD q 0) 0 i 0 = tot (fun q => zs.getD q 0) 0 i 0 := by
      rw [tot_shift (fun q => (rot zs i t i).getD q 0) (fun q => zs.getD ((q + t) % i) 0) i 0 0 0 (fun q hq => by simp only [Nat.zero_add]; exact rot_get zs i t i q hq)]
      obtain ⟨m, rfl⟩ : ∃ m, i = m + 1 := ⟨i - 1, by omega⟩
      exact tot_rot (fun q => zs.getD q 0) m t
    rw [wl_round, decide_eq_false (show ¬ (i : Int) < i by omega), hr, rot_u hu, hu, rot_len, decide_eq_true (show i ≤ 9223372036854775807 by omega), decide_eq_true hz, decide_eq_true (Nat.le_refl i)]
    simp
  | j + 1, i, hi, h0 => by
    have hnn : 0 ≤ tot (fun q => zs.getD q 0) 0 i 0 := tot_nn (fun k => (u_at hu k).1) i 0 0 (Int.le_refl 0)
    obtain ⟨g1, g2⟩ := rstep hnn (u_at hu i)
    have hl := tot_last (fun q => zs.getD q 0) i 0 0
    rw [Nat.zero_add] at hl
    refine Goes.gives (Goes.trans (H_head (f := Try.f4) (cuts := wlC) (ns := []) (top := 99) (todo' := hd Try.f4 0) (tm' := wlTm (.sl true 4 1 0 1 (i + 1) none) n c t ((i + 1 : Nat) : Int)) (m' := wlM 4 5 zs (satH (tot (fun q => zs.getD q 0) 0 (i + 1) 0)) (satL (tot (fun q => zs.getD q 0) 0 (i + 1) 0)) (rot zs n t (i + 1))) hE_ws mixed rfl ?_)
      (Goes.ren (nx := 3) (σ := [(0, 0), (1, 1), (2, 4)]) rfl)) (wl_loop n c hn zs hz hu t ht j (i + 1) (by omega) (by omega))
    rw [wl_round, decide_eq_true (show (i : Int) < n by omega), Int.toNat_natCast, g1, g2, ← hl, ix_eq (by omega) hn ht, rB_ok (by omega) hn ht hz, Int.toNat_natCast, rot_len, decide_eq_true h0, decide_eq_true (show (i + 1) * 8 ≤ 140737488355328 by omega), decide_eq_true (Nat.le_refl i), show IntKind.i64.wrap ((i : Int) + 1) = ((i + 1 : Nat) : Int) by rw [IntWalk.i64_in _ (by omega)]; omega,
      List.take_of_length_le (by rw [rot_len]; exact Nat.le_refl i)]
    rfl
theorem wl_gives (n c : Nat) (zs : List Int) (hz : n ≤ zs.length) (hu : uB zs = true) (t : Nat) (ht : t ≤ 255) : Gives_ Try.prog Try.f4 1 (enterA Try.f4 (bodyOf Try.f4) [.sl false 0 1 0 1 n (some c), .val (.int .u8 (t : Int))] ⟨[(0, some ⟨false, false, .col (.ints .u64 zs)⟩)], 1⟩) (vb true) ⟨[], 99⟩ := by
  have h := wl_in n c zs t
  by_cases hn : n ≤ 200
  · rw [decide_eq_false (show ¬ (200 : Int) < n by omega)] at h
    refine Goes.gives (F_head (f := Try.f4) (c := bodyOf Try.f4) (cuts := wlE) (ns := []) (top := 99) hE_ws mixed rfl rfl h) ?_
    by_cases h0 : n = 0
    · subst h0
      refine H_ret (cuts := wlA) (ns := []) (top := 99) hE_ws mixed rfl ?_
      rw [wl_nil, decide_eq_false (show ¬ (0 : Int) < (0 : Nat) by omega), hu, decide_eq_true hz]
      rfl
    · have hs0 : satH 0 = 0 ∧ satL 0 = 0 := by decide
      obtain ⟨g1, g2⟩ := rstep (Int.le_refl 0) (u_at hu 0)
      rw [hs0.1, hs0.2] at g1 g2
      refine Goes.gives (Goes.trans (H_head (f := Try.f4) (cuts := wlA) (ns := []) (top := 99) (todo' := hd Try.f4 0) (tm' := wlTm (.sl true 3 1 0 1 1 none) n c t ((1 : Nat) : Int)) (m' := wlM 3 4 zs (satH (tot (fun q => zs.getD q 0) 0 1 0)) (satL (tot (fun q => zs.getD q 0) 0 1 0)) (rot zs n t 1)) hE_ws mixed rfl ?_)
        (Goes.ren (nx := 3) (σ := [(0, 0), (1, 1), (2, 3)]) rfl)) (wl_loop n c hn zs hz hu t ht (n - 1) 1 (by omega) (by omega))
      have hb : rB 0 (t : Int) n zs true = true := rB_ok (i := 0) (n := n) (t := t) (zs := zs) (r := true) (by omega) hn ht hz
      have hi : wlIx 0 (t : Int) n = (((0 + t) % n : Nat) : Int) := ix_eq (i := 0) (n := n) (t := t) (by omega) hn ht
      have g1' : haymowref01_Add_0 0 0 0 (zs.getD (0 : Int).toNat 0) = satH (tot (fun q => zs.getD q 0) 0 1 0) := g1
      have g2' : haymowref01_Add_1 0 0 0 (zs.getD (0 : Int).toNat 0) = satL (tot (fun q => zs.getD q 0) 0 1 0) := g2
      rw [wl_nil, decide_eq_true (show (0 : Int) < n by omega), g1', g2', hi, hb, Int.toNat_natCast]
      rfl
  · rw [decide_eq_true (show (200 : Int) < n by omega)] at h
    exact F_ret (f := Try.f4) (c := bodyOf Try.f4) hE_ws mixed rfl rfl h
end Go.Proofs.Ytanfjgkohhlcoaa
